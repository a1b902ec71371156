/-
  owned, the plain part: what lies in memory while lists are grown. No program in sight but its types.
-/
import Derived.Test.YtgincippgaecfaaE3
namespace Go.Proofs.Ytgincippgaecfaa.Au
open Go Go.RowKit

/-- The grown slices read as their marks. -/
def Gr (W : World) (gs : List Value) : Prop :=
  ∀ (t : Nat) (v : Value), gs[t]? = some v → ∃ g n c, v = .slice (some ⟨g, 0, none⟩) n c ∧ n ≤ 2000 ∧ ∃ cur, W.heap[g]? = some (.cells cur 3 (0, 0)) ∧ ∀ j, j < n → cur[j]? = some (Value.int .i64 (mk (t / 16)))

/-- Between two rounds of growing: the lists from lo on stand full; vg is the row of the grown ones. -/
def QR (base gl : Nat) (vs : List Value) (w0 : World) (B2 lo : Nat) (gs : List Value) (vg : Value) (W : World) : Prop :=
  W.heap[gl]? = some (.cells vs.toArray 33 (0, 0)) ∧
  (∀ (i : Nat) (v : Value), lo ≤ i → vs[i]? = some v → (∃ n, n ≤ 1000 ∧ Ints base W v (List.replicate n (mk i))) ∧ ∀ (t : Nat) (u : Value) (g : Nat), gs[t]? = some u → u.ownBlock = some g → v.ownBlock ≠ some g) ∧
  W.ownsRow B2 33 1 vg gs.length gs ∧ Gr W gs ∧ Below base w0 W ∧ B2 ≤ W.heap.size ∧ gl < B2 ∧ base ≤ B2

/-- .. and of the one that grows, x. -/
def QX (base : Nat) (vs : List Value) (i nx : Nat) (x : Value) (gs : List Value) (W : World) : Prop :=
  Ints base W x (List.replicate nx (mk i)) ∧
  (∀ (i' : Nat) (v : Value) (g : Nat), i + 1 ≤ i' → vs[i']? = some v → x.ownBlock = some g → v.ownBlock ≠ some g) ∧
  (∀ (t : Nat) (u : Value) (g : Nat), gs[t]? = some u → u.ownBlock = some g → x.ownBlock = some g → t / 16 = i ∧ ∃ p m c, u = .slice p m c ∧ m ≤ nx)

theorem rep_snoc (n : Nat) (x : Int) : List.replicate n x ++ [x] = List.replicate (n + 1) x := by
  rw [List.replicate_succ']

section
variable {base gl : Nat} {vs : List Value} {w0 W w1 w3 : World} {B2 lo i nx : Nat} {gs : List Value} {vg vg' x x' : Value} {tmp : Obj}

theorem row_type {a : Nat} {c : Nat} {v : Value} {n : Nat} {xs : List Value} (h : W.ownsRow a c 1 v n xs) {g : Nat} (hg : v.ownBlock = some g) : ∃ cur, W.heap[g]? = some (.cells cur c (0, 0)) := by
  rcases h.2 with ⟨rfl, _⟩ | ⟨g', cap, cur, rfl, _, hh, _⟩
  · simp [Value.ownBlock] at hg
  · obtain rfl : g' = g := by simpa [Value.ownBlock] using hg
    exact ⟨cur, hh⟩

/-- Nothing that lay has turned but x's own row, or nothing at all: the frame of an append to x. -/
theorem QR.grow (h : QR base gl vs w0 B2 (i + 1) gs vg W) (hx : QX base vs i nx x gs W)
    (hown : w1.ownsRow base 3 1 x' (nx + 1) ((List.replicate nx (mk i)).map (Value.int .i64) ++ [.int .i64 (mk i)]))
    (hc : (x'.ownBlock = x.ownBlock ∧ (W.alloc tmp).grownBy w1 x.ownBlock) ∨ (x'.ownBlock = some (W.alloc tmp).heap.size ∧ (W.alloc tmp).grownBy w1 none)) :
    QR base gl vs w0 B2 (i + 1) gs vg w1 ∧ QX base vs i (nx + 1) x' gs w1 := by
  obtain ⟨q1, q2, q3, q4, q5, q6, q7, q8⟩ := h
  obtain ⟨x1, x2, x3⟩ := hx
  have hi' : Ints base w1 x' (List.replicate (nx + 1) (mk i)) := by
    unfold Ints
    rw [← rep_snoc]
    simpa using hown
  -- a block that lay and is not x's is as it was
  have same : ∀ b, b < W.heap.size → x.ownBlock ≠ some b → w1.heap[b]? = W.heap[b]? := fun b hb hne => by
    have e : (W.alloc tmp).heap[b]? = W.heap[b]? := Below.heap_alloc W tmp b hb
    rcases hc with ⟨_, hg⟩ | ⟨_, hg⟩
    · rw [hg.block b (by simp; omega) (fun e => hne e.symm), e]
    · rw [hg.block b (by simp; omega) (by simp), e]
  have hrow : (W.alloc tmp).grownBy w1 x.ownBlock := by
    rcases hc with ⟨_, hg⟩ | ⟨_, hg⟩
    · exact hg
    · exact hg.but _
  have hxb : ∀ k, x.ownBlock = some k → base ≤ k := fun k e => (Ints.lt x1 k e).1
  have hbs : base ≤ W.heap.size := by omega
  have hB1 : Below base w0 w1 := (q5.alloc hbs tmp).grown hrow (by simp; omega) hxb
  have hsz : W.heap.size ≤ w1.heap.size := by have := hrow.size; simp at this; omega
  have glx : x.ownBlock ≠ some gl := fun e => by
    obtain ⟨cur, hcur⟩ := row_type x1 e
    exact ne_type hcur q1 rfl
  -- the new one's block is x's or new
  have newb : ∀ g, x'.ownBlock = some g → x.ownBlock = some g ∨ W.heap.size ≤ g := fun g e => by
    rcases hc with ⟨h1, _⟩ | ⟨h1, _⟩
    · exact .inl (h1 ▸ e)
    · rw [h1] at e; cases e; exact .inr (by simp)
  refine ⟨⟨(same gl (by omega) glx).trans q1, fun i' v hi hv => ?_, ?_, ?_, hB1, by omega, q7, q8⟩, hi', fun i' v g hi hv hg => ?_, fun t u g ht hu hg => ?_⟩
  · obtain ⟨⟨n, hn, hI⟩, hd⟩ := q2 i' v hi hv
    refine ⟨⟨n, hn, World.ownsRow.kept (World.ownsRow.alloc hI tmp) hrow ?_⟩, hd⟩
    cases hb : v.ownBlock with
    | none => exact .inl rfl
    | some b => exact .inr (fun e => x2 i' v b hi hv e.symm hb)
  · refine World.ownsRow.kept (World.ownsRow.alloc q3 tmp) hrow ?_
    cases hb : vg.ownBlock with
    | none => exact .inl rfl
    | some b => exact .inr (fun e => by
        obtain ⟨c1, k1⟩ := row_type q3 hb
        obtain ⟨c2, k2⟩ := row_type x1 e.symm
        exact ne_type k2 k1 rfl)
  · intro t v hv
    obtain ⟨g, n, c, rfl, hn, cur, hh, hcells⟩ := q4 t v hv
    refine ⟨g, n, c, rfl, hn, ?_⟩
    by_cases hxg : x.ownBlock = some g
    · obtain ⟨ht, p, m, c', e, hm⟩ := x3 t _ g hv rfl hxg
      cases e
      rcases hc with ⟨h1, _⟩ | ⟨h1, hg⟩
      · obtain ⟨cur', k1, k2⟩ := Ints.heapAt hi' (g := g) (h1.trans hxg)
        refine ⟨cur', k1, fun j hj => ?_⟩
        rw [ht]
        exact k2 j (mk i) (by rw [List.getElem?_replicate, if_pos (by omega)])
      · have hgl : g < W.heap.size := (Array.getElem?_eq_some_iff.1 hh).1
        have hw : w1.heap[g]? = W.heap[g]? := (hg.block g (by simp; omega) (by simp)).trans (Below.heap_alloc W tmp g hgl)
        exact ⟨cur, hw.trans hh, hcells⟩
    · have hgl : g < W.heap.size := (Array.getElem?_eq_some_iff.1 hh).1
      exact ⟨cur, (same g hgl hxg).trans hh, hcells⟩
  · rcases newb g hg with h | h
    · exact x2 i' v g hi hv h
    · obtain ⟨⟨n, _, hI⟩, _⟩ := q2 i' v hi hv
      intro e
      have := (Ints.lt hI g e).2
      omega
  · rcases newb g hg with h | h
    · obtain ⟨a, p, m, c, e, hm⟩ := x3 t u g ht hu h
      exact ⟨a, p, m, c, e, by omega⟩
    · obtain ⟨g', n, c, rfl, _, cur, hh, _⟩ := q4 t u ht
      have hgl : g' < W.heap.size := (Array.getElem?_eq_some_iff.1 hh).1
      simp [Value.ownBlock] at hu
      omega

/-- The grown one goes to the row. -/
theorem QR.push (h : QR base gl vs w0 B2 (i + 1) gs vg W) (hx : QX base vs i nx x gs W) (hn0 : 0 < nx) (hn1 : nx ≤ 2000) (hgs : gs.length / 16 = i)
    (hown : w3.ownsRow B2 33 1 vg' (gs.length + 1) (gs ++ [x])) (hgrow : (W.alloc tmp).grownBy w3 vg.ownBlock) :
    QR base gl vs w0 B2 (i + 1) (gs ++ [x]) vg' w3 ∧ QX base vs i nx x (gs ++ [x]) w3 := by
  obtain ⟨q1, q2, q3, q4, q5, q6, q7, q8⟩ := h
  obtain ⟨x1, x2, x3⟩ := hx
  have same : ∀ b, b < W.heap.size → vg.ownBlock ≠ some b → w3.heap[b]? = W.heap[b]? := fun b hb hne => by
    rw [hgrow.block b (by simp; omega) (fun e => hne e.symm)]
    exact Below.heap_alloc W tmp b hb
  have hvb : ∀ k, vg.ownBlock = some k → B2 ≤ k := fun k e => (World.ownsRow.lt q3 k e).1
  have hB1 : Below base w0 w3 := (q5.alloc (by omega) tmp).grown hgrow (by simp; omega) (fun k e => Nat.le_trans q8 (hvb k e))
  have hsz : W.heap.size ≤ w3.heap.size := by have := hgrow.size; simp at this; omega
  have gvl : vg.ownBlock ≠ some gl := fun e => by have := hvb gl e; omega
  have apart : ∀ (a : Nat) (v : Value) (n : Nat) (xs : List Value), W.ownsRow a 3 1 v n xs → v.ownBlock = none ∨ v.ownBlock ≠ vg.ownBlock := fun a v n xs hv => by
    cases hb : v.ownBlock with
    | none => exact .inl rfl
    | some b => exact .inr (fun e => by
        obtain ⟨c1, k1⟩ := row_type q3 e.symm
        obtain ⟨c2, k2⟩ := row_type hv hb
        exact ne_type k2 k1 rfl)
  have hxi : Ints base w3 x (List.replicate nx (mk i)) := World.ownsRow.kept (World.ownsRow.alloc x1 tmp) hgrow (apart _ _ _ _ x1)
  refine ⟨⟨(same gl (by omega) gvl).trans q1, fun i' v hi hv => ?_, by simpa using hown, ?_, hB1, by omega, q7, q8⟩, hxi, x2, fun t u g ht hu hg => ?_⟩
  · obtain ⟨⟨n, hn, hI⟩, hd⟩ := q2 i' v hi hv
    refine ⟨⟨n, hn, World.ownsRow.kept (World.ownsRow.alloc hI tmp) hgrow (apart _ _ _ _ hI)⟩, fun t u g ht hu => ?_⟩
    rcases Nat.lt_or_ge t gs.length with hlt | hge
    · rw [List.getElem?_append_left hlt] at ht
      exact hd t u g ht hu
    · rw [List.getElem?_append_right hge] at ht
      have : t - gs.length = 0 := by have := (List.getElem?_eq_some_iff.1 ht).1; simp at this; omega
      rw [this] at ht
      simp at ht
      subst ht
      exact x2 i' v g hi hv hu
  · intro t v hv
    rcases Nat.lt_or_ge t gs.length with hlt | hge
    · rw [List.getElem?_append_left hlt] at hv
      obtain ⟨g, n, c, rfl, hn, cur, hh, hcells⟩ := q4 t v hv
      have hgl : g < W.heap.size := (Array.getElem?_eq_some_iff.1 hh).1
      refine ⟨g, n, c, rfl, hn, cur, (same g hgl (fun e => ?_)).trans hh, hcells⟩
      obtain ⟨c1, k1⟩ := row_type q3 e
      exact ne_type hh k1 rfl
    · rw [List.getElem?_append_right hge] at hv
      have e0 : t - gs.length = 0 := by have := (List.getElem?_eq_some_iff.1 hv).1; simp at this; omega
      rw [e0] at hv
      simp at hv
      subst hv
      have ht : t = gs.length := by omega
      subst ht
      rcases Ints.cases hxi with ⟨_, h0⟩ | ⟨g, cap, rfl, _, _, _, _, _, _⟩
      · exfalso
        have := congrArg List.length h0
        simp at this
        omega
      · obtain ⟨cur, k1, k2⟩ := Ints.heapAt hxi (g := g) rfl
        refine ⟨g, _, cap, rfl, by simpa using hn1, cur, k1, fun j hj => ?_⟩
        rw [hgs]
        simp at hj
        exact k2 j (mk i) (by rw [List.getElem?_replicate, if_pos hj])
  · rcases Nat.lt_or_ge t gs.length with hlt | hge
    · rw [List.getElem?_append_left hlt] at ht
      exact x3 t u g ht hu hg
    · rw [List.getElem?_append_right hge] at ht
      have e0 : t - gs.length = 0 := by have := (List.getElem?_eq_some_iff.1 ht).1; simp at this; omega
      rw [e0] at ht
      simp at ht
      subst ht
      have ht : t = gs.length := by omega
      subst ht
      refine ⟨hgs, ?_⟩
      rcases Ints.cases hxi with ⟨h0, _⟩ | ⟨g, cap, h0, _⟩
      · exact ⟨none, 0, 0, h0, Nat.zero_le _⟩
      · exact ⟨_, _, cap, h0, by simp⟩

/-- A list is taken up. -/
theorem QR.take (h : QR base gl vs w0 B2 i gs vg W) (ha : Apart vs) {v : Value} (hv : vs[i]? = some v) : QR base gl vs w0 B2 (i + 1) gs vg W ∧ ∃ n, n ≤ 1000 ∧ QX base vs i n v gs W := by
  obtain ⟨q1, q2, q3, q4, q5, q6, q7, q8⟩ := h
  obtain ⟨⟨n, hn, hI⟩, hd⟩ := q2 i v (Nat.le_refl _) hv
  exact ⟨⟨q1, fun i' u hi hu => q2 i' u (by omega) hu, q3, q4, q5, q6, q7, q8⟩, n, hn, hI, fun i' u g hi hu hg => ha i i' v u g (by omega) hv hu hg, fun t u g ht hu hg => absurd hg (hd t u g ht hu)⟩

/-- Written full, growing begins. -/
theorem PB.grows (h : PB base gl vs w0 vs.length 0 W) (hgl : gl < W.heap.size) (hb : base ≤ W.heap.size) : QR base gl vs w0 W.heap.size 0 [] (.slice none 0 0) W := by
  obtain ⟨h1, h2, h3⟩ := h
  refine ⟨h1, fun i v _ hv => ?_, World.ownsRow_nil _ _ _ _, fun t v ht => by simp at ht, h3, Nat.le_refl _, hgl, hb⟩
  obtain ⟨l, a, b, c, _⟩ := h2 i v hv
  have hl := c (List.getElem?_eq_some_iff.1 hv).1
  exact ⟨⟨l.length, b, by rw [← hl]; exact a⟩, fun t u g ht => by simp at ht⟩
end

end Go.Proofs.Ytgincippgaecfaa.Au
