/-
  A history as an argument: what the row reads opened to its cells. No condition.
-/
import Derived.Test.YtgincippgaecfaaHist
import Derived.Deep.Slices
import Derived.Deep.Fields
import Derived.ChangeSame
import Derived.SizedLaws
import Derived.ProofKit
namespace Go.Proofs.Ytgincippgaecfaa.Au
open Go Go.RowKit Go.ChangeShapes Go.WideShapes Go.Deep

noncomputable def fields55 : Array Field := match Try.prog.underlying 55 with | some (.struct fs) => fs | _ => #[]
theorem under55 : Try.prog.underlying 55 = some (.struct fields55) := by kernel_rfl
theorem size55 : fields55.size = 6 := by kernel_rfl
theorem cells55 : Try.prog.cellsOf 55 = 6 := by kernel_rfl
theorem bytes55 : Try.prog.bytesOf 55 = 56 := by kernel_rfl
theorem one55 : oneCellFields Try.prog fields55 = true := by kernel_rfl
theorem types55 : fields55.toList.map (·.type) = [3, 3, 9, 3, 3, 4] := by kernel_rfl

theorem field55 (j : Nat) (t : TypeId) (h : [3, 3, 9, 3, 3, 4][j]? = some t) : ∃ f : Field, fields55[j]? = some f ∧ f.type = t := by
  rw [← types55, List.getElem?_map] at h
  rw [Array.getElem?_toList] at h
  cases hf : fields55[j]? with
  | none => rw [hf] at h; cases h
  | some f => rw [hf] at h; exact ⟨f, rfl, by simpa using h⟩

/-- A list out of its elements, one by one. -/
theorem list_of {α : Type} {Q : Nat → α → Prop} : ∀ n : Nat, (∀ i, i < n → ∃ e, Q i e) → ∃ es : List α, es.length = n ∧ ∀ i e, es[i]? = some e → Q i e
  | 0, _ => ⟨[], rfl, fun i e h => by simp at h⟩
  | n + 1, h => by
    obtain ⟨es, hl, he⟩ := list_of n fun i hi => h i (by omega)
    obtain ⟨e, hq⟩ := h n (by omega)
    refine ⟨es ++ [e], by simp [hl], fun i x hx => ?_⟩
    rcases Nat.lt_or_ge i es.length with hi | hi
    · rw [List.getElem?_append_left hi] at hx
      exact he i x hx
    · rw [List.getElem?_append_right hi] at hx
      have : i - es.length = 0 := by
        have := (List.getElem?_eq_some_iff.1 hx).1
        simp at this
        omega
      rw [this] at hx
      simp at hx
      subst hx
      obtain rfl : i = n := by omega
      exact hq

section
variable {H : Type} {enc : TypeId × Value → H} {w : World} {base : Nat} {spare : Nat → Bool} {held : Bool}

set_option maxRecDepth 100000 in
theorem open_entry {cs : List Value} {n : Nat} {x : DataW H × List MemPlace} (h : DataW.trod enc Try.prog w base spare held n 55 cs = some x) (hl : cs.length = 6) :
    ∃ e : Ent, cs = [.int .i64 e.kind, .int .i64 e.who, .string e.queue, .int .i64 e.msg, .int .i64 e.count, .bool e.dur] ∧ (Lit.int .i64 e.msg).wf = true ∧ (Lit.int .i64 e.count).wf = true ∧ (Lit.int .i64 e.kind).wf = true ∧ (Lit.int .i64 e.who).wf = true := by
  obtain ⟨ys, n', hn', hy, hlen, hyl, hf⟩ := DataW.trod_struct under55 h
  have one : ∀ (j : Nat) (t : TypeId), [3, 3, 9, 3, 3, 4][j]? = some t → ∃ v y, cs[j]? = some v ∧ DataW.trod enc Try.prog w base spare held n' t [v] = some y := by
    intro j t ht
    obtain ⟨f, hj, rfl⟩ := field55 j t ht
    obtain ⟨ho, hk⟩ := hone_of one55 j f hj
    have hjl : j < 6 := by rw [← size55]; exact (Array.getElem?_eq_some_iff.1 hj).1
    have h1 := hf j f hj
    rw [ho, hk] at h1
    have hone' : (cs.drop j).take 1 = [cs[j]'(by omega)] := by
      rw [List.drop_eq_getElem_cons (by omega)]
      rfl
    rw [hone'] at h1
    have hys : ys[j]? = some (ys[j]'(by rw [hyl, size55]; omega)) := List.getElem?_eq_getElem _
    exact ⟨_, _, List.getElem?_eq_getElem (by omega), h1.trans hys⟩
  obtain ⟨v0, y0, e0, t0⟩ := one 0 3 rfl
  obtain ⟨v1, y1, e1, t1⟩ := one 1 3 rfl
  obtain ⟨v2, y2, e2, t2⟩ := one 2 9 rfl
  obtain ⟨v3, y3, e3, t3⟩ := one 3 3 rfl
  obtain ⟨v4, y4, e4, t4⟩ := one 4 3 rfl
  obtain ⟨v5, y5, e5, t5⟩ := one 5 4 rfl
  obtain ⟨k0, hk0, _, w0⟩ := DataW.trod_int Try.underlying3 t0
  obtain ⟨k1, hk1, _, w1⟩ := DataW.trod_int Try.underlying3 t1
  obtain ⟨k2, hk2, _, _⟩ := DataW.trod_string Try.underlying9 t2
  obtain ⟨k3, hk3, _, w3⟩ := DataW.trod_int Try.underlying3 t3
  obtain ⟨k4, hk4, _, w4⟩ := DataW.trod_int Try.underlying3 t4
  obtain ⟨k5, hk5, _⟩ := DataW.trod_bool Try.underlying4 t5
  simp only [List.cons.injEq, and_true] at hk0 hk1 hk2 hk3 hk4 hk5
  subst hk0 hk1 hk2 hk3 hk4 hk5
  refine ⟨⟨k0, k1, k2, k3, k4, k5⟩, ?_, w3, w4, w0, w1⟩
  match cs, hl with
  | [a0, a1, a2, a3, a4, a5], _ =>
    simp at e0 e1 e2 e3 e4 e5
    simp [e0, e1, e2, e3, e4, e5]

/-- An entry's numbers are within their range. -/
def Ent.fine (e : Ent) : Prop := (Lit.int .i64 e.msg).wf = true ∧ (Lit.int .i64 e.count).wf = true ∧ (Lit.int .i64 e.kind).wf = true ∧ (Lit.int .i64 e.who).wf = true

/-- THE ARGUMENT OPENED. -/
theorem open_hist {fuel : Nat} {cs : List Value} {x : DataW H × List MemPlace} (h : DataW.trod enc Try.prog w base spare held fuel 23 cs = some x) :
    ∃ (sv : Value) (es : List Ent), cs = [sv] ∧ HistAt w.heap.size w sv es ∧ (∀ e ∈ es, e.fine) ∧ (∀ p c, sv = .slice p es.length c → es.length ≤ c) ∧ ((x.1 = .nil ∧ es = []) ∨ ∃ l r, x.1 = .slice l r ∧ l.length = es.length) := by
  rcases open_slice Try.underlying23 h with ⟨rfl, rfl⟩ | ⟨a, len, cap, m, n, D, Pl, hcs, hb, hl, hm, hmm, hx, hi⟩
  · exact ⟨_, [], rfl, .inl ⟨_, _, rfl, rfl⟩, by simp, fun _ _ _ => Nat.zero_le _, .inl ⟨rfl, rfl⟩⟩
  · subst hcs
    rcases Nat.eq_zero_or_pos len with h0 | hpos
    · subst h0
      exact ⟨_, [], rfl, .inl ⟨_, _, rfl, rfl⟩, by simp, fun _ _ _ => Nat.zero_le _, .inr ⟨_, _, by rw [hx], by simp⟩⟩
    · have hlm : len ≤ m := by rw [hmm]; split <;> omega
      obtain ⟨es, hel, hes⟩ := list_of (Q := fun i e => (∀ j u, e.val.cells.toList[j]? = some u → w.cell? (a.add (i * 6 + j)) = some u) ∧ Ent.fine e) len fun i him => by
        obtain ⟨cs', hc, ht'⟩ := hi i (by omega)
        rw [cells55] at hc
        obtain ⟨_, hcl, hat⟩ := World.cells?_some hc
        obtain ⟨e, rfl, f1⟩ := open_entry ht' hcl
        refine ⟨e, fun j u hu => ?_, f1⟩
        have hj : j < 6 := by
          have := (List.getElem?_eq_some_iff.1 hu).1
          simpa [Ent.val, Value.cells] using this
        rw [← Go.Deep.add_add, hat j hj]
        simpa [Ent.val, Value.cells] using hu
      have hsp : a.spot = none := by
        obtain ⟨e, he⟩ : ∃ e, es[0]? = some e := ⟨_, List.getElem?_eq_getElem (by omega)⟩
        have := (hes 0 e he).1 0 (.int .i64 e.kind) rfl
        simpa [Addr.add] using World.cell?_spot this
      obtain ⟨b, off, spot⟩ := a
      simp only at hsp
      subst hsp
      have hat : ∀ i e, es[i]? = some e → EntAt w b (off + i * 6) e := fun i e he => by
        have hh := (hes i e he).1
        have k : ∀ j u, e.val.cells.toList[j]? = some u → w.cell? ⟨b, off + i * 6 + j, none⟩ = some u := fun j u hu => by
          have := hh j u hu
          rwa [add_plain, show off + (i * 6 + j) = off + i * 6 + j by omega] at this
        exact ⟨k 0 _ rfl, k 1 _ rfl, k 2 _ rfl, k 3 _ rfl, k 4 _ rfl, k 5 _ rfl⟩
      refine ⟨_, es, rfl, .inr ⟨b, off, cap, by rw [hel], ?_, hat⟩, fun e he => ?_, fun p c e => ?_, .inr ⟨_, _, by rw [hx], by simp [hel]⟩⟩
      · obtain ⟨e, he⟩ : ∃ e, es[0]? = some e := ⟨_, List.getElem?_eq_getElem (by omega)⟩
        exact World.block_lt_of_cell? _ _ (hat 0 e he).kind
      · obtain ⟨i, hi', rfl⟩ := List.getElem_of_mem he
        exact (hes i _ (List.getElem?_eq_getElem hi')).2
      · simp only [Value.slice.injEq] at e
        rw [hel, ← e.2.2]; exact hl
end


theorem laidOut : laidOutB Try.prog = true := by kernel_rfl

/-- The arguments read as they read, where nothing that lay has turned. -/
theorem below_trodAll {H : Type} {enc : TypeId × Value → H} {P : Program} (hl : laidOutB P = true) {W W' : World} (hb : Below W.heap.size W W') :
    ∀ {ts : List TypeId} {vs : List Value} {ds : List (DataW H)} {ps : List MemPlace}, (∀ t ∈ ts, P.readableRec t = true ∧ t < P.types.size) → DataW.TrodAll enc P W 0 (fun _ => true) true ts vs ds ps → (∀ x ∈ ps, x.block < W.heap.size) →
      DataW.TrodAll enc P W' 0 (fun b => decide (b < W.heap.size)) true ts vs ds ps
  | [], [], [], _, _, h, _ => h
  | [], [], _ :: _, _, _, h, _ => h.elim
  | [], _ :: _, _, _, _, h, _ => h.elim
  | _ :: _, [], _, _, _, h, _ => h.elim
  | _ :: _, _ :: _, [], _, _, h, _ => h.elim
  | t :: ts, v :: vs, d :: ds, ps, ht, ⟨p, q, h1, h2, e⟩, hlt => by
    subst e
    exact ⟨p, q, Below.trod hl (ht t (by simp)).1 (ht t (by simp)).2 h1 hb (fun x hx => hlt x (List.mem_append_left _ hx)), below_trodAll hl hb (fun x hx => ht x (List.mem_cons_of_mem _ hx)) h2 (fun x hx => hlt x (List.mem_append_right _ hx)), rfl⟩

end Go.Proofs.Ytgincippgaecfaa.Au
