/-
  owned, the plain part: what lies in memory while lists are written full and grown. No program in sight but its types.
-/
import Derived.Test.YtgincippgaecfaaE2
namespace Go.Proofs.Ytgincippgaecfaa.Au
open Go Go.RowKit

def mk (i : Nat) : Int := -100 - (i : Int)

theorem Ints.set {base : Nat} {W : World} {g n c : Nat} {l : List Int} (h : Ints base W (.slice (some ⟨g, 0, none⟩) n c) l) (j : Nat) (x : Int) : Ints base (W.setCell ⟨g, j, none⟩ (.int .i64 x)) (.slice (some ⟨g, 0, none⟩) n c) (l.set j x) := by
  rcases h.2 with ⟨h0, _⟩ | ⟨g', cap, cur, hv, hb, hh, h1, h2, h3, h4⟩
  · cases h0
  · cases hv
    refine ⟨by simp, .inr ⟨g, c, cur.setIfInBounds j (.int .i64 x), by simp, hb, ?_, by simpa using h1, h2, by simpa using h3, ?_⟩⟩
    · obtain ⟨hlt, hk⟩ := Array.getElem?_eq_some_iff.1 hh
      show (W.heap.modify g _)[g]? = _
      rw [Array.getElem?_eq_getElem (by rw [Array.size_modify]; exact hlt), Array.getElem_modify_self, hk]
      rfl
    · rw [Array.toList_setIfInBounds, List.length_set, List.take_set, h4, List.map_set]

theorem Ints.heapAt {base : Nat} {W : World} {v : Value} {l : List Int} (h : Ints base W v l) {g : Nat} (hg : v.ownBlock = some g) : ∃ cur, W.heap[g]? = some (.cells cur 3 (0, 0)) ∧ ∀ (j : Nat) (x : Int), l[j]? = some x → cur[j]? = some (Value.int .i64 x) := by
  rcases h.2 with ⟨rfl, _⟩ | ⟨g', cap, cur, rfl, hb, hh, h1, h2, h3, h4⟩
  · simp [Value.ownBlock] at hg
  · obtain rfl : g' = g := by simpa [Value.ownBlock] using hg
    refine ⟨cur, hh, fun j x hx => ?_⟩
    have hj : j < l.length := (List.getElem?_eq_some_iff.1 hx).1
    have e : (cur.toList.take (l.length * 1))[j]? = (l.map (Value.int .i64))[j]? := by rw [h4]
    rw [List.getElem?_take_of_lt (by omega), Array.getElem?_toList, List.getElem?_map, hx] at e
    exact e

theorem ne_type {W : World} {a b : Nat} {x y : Array Value} {fx fy : Nat × Nat} (h : W.heap[a]? = some (.cells x 3 fx)) (k : W.heap[b]? = some (.cells y 33 fy)) : a ≠ b := by
  rintro rfl
  rw [h] at k
  simp at k

/-- Lists in rows apart. -/
def Apart (vs : List Value) : Prop := ∀ (i j : Nat) (vi vj : Value) (g : Nat), i ≠ j → vs[i]? = some vi → vs[j]? = some vj → vi.ownBlock = some g → vj.ownBlock ≠ some g

/-- WHILE THEY ARE WRITTEN FULL: the first k lists bear their marks; of list k the first j numbers do. -/
def PB (base gl : Nat) (vs : List Value) (w0 : World) (k j : Nat) (W : World) : Prop :=
  W.heap[gl]? = some (.cells vs.toArray 33 (0, 0)) ∧
  (∀ i v, vs[i]? = some v → ∃ l, Ints base W v l ∧ l.length ≤ 1000 ∧ (i < k → l = List.replicate l.length (mk i)) ∧ (i = k → ∀ j', j' < j → j' < l.length → l[j']? = some (mk k))) ∧ Below base w0 W

theorem Ints.slice_len {base : Nat} {W : World} {p : Option Addr} {n c : Nat} {l : List Int} (h : Ints base W (.slice p n c) l) : l.length = n := by
  rcases Ints.cases h with ⟨h0, rfl⟩ | ⟨g, cap, h0, _⟩
  · cases h0; rfl
  · cases h0; rfl

section
variable {base gl : Nat} {vs : List Value} {w0 W w1 w3 : World} {k j : Nat}

theorem PB.store (h : PB base gl vs w0 k j W) (ha : Apart vs) {g n c : Nat} (hv : vs[k]? = some (.slice (some ⟨g, 0, none⟩) n c)) : PB base gl vs w0 k (j + 1) (W.setCell ⟨g, j, none⟩ (.int .i64 (mk k))) := by
  obtain ⟨h1, h2, h3⟩ := h
  have hgs : W.grownBy (W.setCell ⟨g, j, none⟩ (.int .i64 (mk k))) (some g) := ⟨rfl, rfl, rfl, by simp [World.setCell], fun i _ hne => Below.heap_setCell _ _ _ i (fun e => hne (by rw [e]))⟩
  obtain ⟨l, hl, hlen, hf, hm⟩ := h2 k _ hv
  obtain ⟨cur, hcur, _⟩ := Ints.heapAt hl (g := g) rfl
  have hgl : gl ≠ g := (ne_type hcur h1).symm
  have hgb : base ≤ g := (Ints.lt hl g rfl).1
  refine ⟨(hgs.block gl (Array.getElem?_eq_some_iff.1 h1).1 (fun e => hgl (Option.some.inj e))).trans h1, fun i v hi => ?_, h3.grown hgs (by have := (Ints.lt hl g rfl).2; omega) (fun x e => by have := Option.some.inj e; omega)⟩
  by_cases hik : i = k
  · subst hik
    rw [hv] at hi
    cases hi
    refine ⟨l.set j (mk i), Ints.set hl j _, by simpa using hlen, fun h => absurd h (Nat.lt_irrefl _), fun _ j' hj' hl' => ?_⟩
    rw [List.length_set] at hl'
    by_cases e : j' = j
    · subst e; simp [hl']
    · rw [List.getElem?_set_ne (fun h => e h.symm)]
      exact hm rfl j' (by omega) hl'
  · obtain ⟨l', k1, k2, k3, k4⟩ := h2 i v hi
    refine ⟨l', World.ownsRow.kept k1 hgs ?_, k2, k3, fun e => absurd e hik⟩
    cases hb : v.ownBlock with
    | none => exact .inl rfl
    | some b => exact .inr (fun e => ha i k v _ b hik hi hv hb (by cases e; rfl))

theorem PB.next (h : PB base gl vs w0 k j W) {p : Option Addr} {n c : Nat} (hv : vs[k]? = some (.slice p n c)) (hj : n ≤ j) : PB base gl vs w0 (k + 1) 0 W := by
  obtain ⟨h1, h2, h3⟩ := h
  refine ⟨h1, fun i v hi => ?_, h3⟩
  obtain ⟨l, a, b, c', d⟩ := h2 i v hi
  refine ⟨l, a, b, fun hik => ?_, fun _ j' hj' => absurd hj' (Nat.not_lt_zero _)⟩
  rcases Nat.lt_or_ge i k with h | h
  · exact c' h
  · obtain rfl : i = k := by omega
    rw [hv] at hi
    cases hi
    have hl := Ints.slice_len a
    apply List.ext_getElem?
    intro t
    by_cases ht : t < l.length
    · rw [d rfl t (by omega) ht]; simp [ht]
    · rw [List.getElem?_eq_none (by omega), List.getElem?_eq_none (by simp; omega)]
end

end Go.Proofs.Ytgincippgaecfaa.Au
