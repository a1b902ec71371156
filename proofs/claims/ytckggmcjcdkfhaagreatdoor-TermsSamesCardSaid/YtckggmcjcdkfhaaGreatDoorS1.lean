/-
  A delivery's state as an argument: what the row reads opened to a tree. No condition.
-/
import Derived.Test.YtckggmcjcdkfhaaGreatDoorV1
import Derived.Test.YtckggmcjcdkfhaaGreatDoorNuStt
namespace Go.Proofs.YtckggmcjcdkfhaaGreatDoor.Va
open Go Go.RowKit Go.ChangeShapes Go.WideShapes Go.Deep Go.Proofs.Nu

noncomputable def fieldsF : Array Field := match Tryz.prog.underlying 27 with | some (.struct fs) => fs | _ => #[]
theorem underF : Tryz.prog.underlying 27 = some (.struct fieldsF) := by kernel_rfl
theorem sizeF : fieldsF.size = 3 := by kernel_rfl
theorem cellsF : Tryz.prog.cellsOf 27 = 7 := by kernel_rfl
theorem fieldsF_at : fieldsF.toList.map (fun f => (f.type, f.offset, Tryz.prog.cellsOf f.type)) = [(9, 0, 1), (9, 1, 1), (25, 2, 5)] := by kernel_rfl
noncomputable def fieldsS : Array Field := match Tryz.prog.underlying 30 with | some (.struct fs) => fs | _ => #[]
theorem underS : Tryz.prog.underlying 30 = some (.struct fieldsS) := by kernel_rfl
theorem sizeS : fieldsS.size = 9 := by kernel_rfl
theorem cellsS : Tryz.prog.cellsOf 30 = 19 := by kernel_rfl
theorem fieldsS_at : fieldsS.toList.map (fun f => (f.type, f.offset, Tryz.prog.cellsOf f.type)) = [(3, 0, 1), (3, 1, 1), (3, 2, 1), (27, 3, 7), (4, 10, 1), (4, 11, 1), (25, 12, 5), (9, 17, 1), (28, 18, 1)] := by kernel_rfl
theorem field_gen {fs : Array Field} {L : List (TypeId × Nat × Nat)} (h : fs.toList.map (fun f => (f.type, f.offset, Tryz.prog.cellsOf f.type)) = L) (j : Nat) (t o k : Nat) (hx : L[j]? = some (t, o, k)) : ∃ f : Field, fs[j]? = some f ∧ f.type = t ∧ f.offset = o ∧ Tryz.prog.cellsOf f.type = k := by
  rw [← h, List.getElem?_map] at hx
  rw [Array.getElem?_toList] at hx
  cases hf : fs[j]? with
  | none => rw [hf] at hx; cases hx
  | some f =>
    rw [hf] at hx
    simp only [Option.map_some, Option.some.injEq, Prod.mk.injEq] at hx
    exact ⟨f, rfl, hx.1, hx.2.1, hx.2.2⟩

section
variable {H : Type} {enc : TypeId × Value → H} {w : World} {base : Nat} {spare : Nat → Bool} {held : Bool}
theorem open_vt {cs : List Value} {n : Nat} {x : DataW H × List MemPlace} (h : DataW.trod enc Tryz.prog w base spare held n 25 cs = some x) (hl : cs.length = 5) :
    ∃ (t : VT) (lv : Value), cs = t.cells lv ∧ t.Fine ∧ LAt w.heap.size w n lv t.list := by
  obtain ⟨k, m, s, lv, e, n', y, hn, hcs, hf, hlist⟩ := open_value h hl
  obtain ⟨ts, hts⟩ := open_list hlist
  exact ⟨.mk k m s e ts, lv, hcs, hf ts, by rw [hn]; exact hts⟩

set_option maxRecDepth 100000 in
theorem open_fault {cs : List Value} {n : Nat} {x : DataW H × List MemPlace} (h : DataW.trod enc Tryz.prog w base spare held n 27 cs = some x) (hl : cs.length = 7) :
    ∃ (c t : ByteArray) (i : VT) (il : Value), cs = .string c :: .string t :: i.cells il ∧ c.size ≤ maxLen ∧ t.size ≤ maxLen ∧ i.Fine ∧ LAt w.heap.size w n il i.list := by
  obtain ⟨ys, n', hn', hy, hlen, hyl, hf⟩ := DataW.trod_struct underF h
  have one : ∀ (j t o k : Nat), ([(9, 0, 1), (9, 1, 1), (25, 2, 5)] : List (TypeId × Nat × Nat))[j]? = some (t, o, k) → ∃ y, DataW.trod enc Tryz.prog w base spare held n' t ((cs.drop o).take k) = some y := by
    intro j t o k hx
    obtain ⟨f, hj, rfl, rfl, rfl⟩ := field_gen fieldsF_at j t o k hx
    have hjl : j < 3 := by rw [← sizeF]; exact (Array.getElem?_eq_some_iff.1 hj).1
    exact ⟨_, (hf j f hj).trans (List.getElem?_eq_getElem (by rw [hyl, sizeF]; omega))⟩
  match cs, hl with
  | [a0, a1, a2, a3, a4, a5, a6], _ =>
    obtain ⟨y0, t0⟩ := one 0 9 0 1 rfl
    obtain ⟨y1, t1⟩ := one 1 9 1 1 rfl
    obtain ⟨y2, t2⟩ := one 2 25 2 5 rfl
    obtain ⟨s0, h0, _, w0⟩ := DataW.trod_string Tryz.underlying9 (show DataW.trod enc Tryz.prog w base spare held n' 9 [a0] = some y0 from t0)
    obtain ⟨s1, h1, _, w1⟩ := DataW.trod_string Tryz.underlying9 (show DataW.trod enc Tryz.prog w base spare held n' 9 [a1] = some y1 from t1)
    obtain ⟨t, lv, h2, hfine, hl2⟩ := open_vt (show DataW.trod enc Tryz.prog w base spare held n' 25 [a2, a3, a4, a5, a6] = some y2 from t2) rfl
    simp only [List.cons.injEq, and_true] at h0 h1
    subst h0 h1
    exact ⟨s0, s1, t, lv, by rw [h2], w0, w1, hfine, hl2.mono (by omega)⟩

set_option maxRecDepth 100000 in
theorem open_state {cs : List Value} {n : Nat} {x : DataW H × List MemPlace} (h : DataW.trod enc Tryz.prog w base spare held n 30 cs = some x) (hl : cs.length = 19) :
    ∃ (k sx o : Int) (c t : ByteArray) (i : VT) (f e : Bool) (a : VT) (tx : ByteArray) (il al lv : Value) (n' : Nat) (y : DataW H × List MemPlace), n = n' + 1 ∧ (∀ l, cs = (ST.mk k sx o c t i f e a tx l).cells il al lv) ∧ (∀ l, (ST.mk k sx o c t i f e a tx l).Fine) ∧ LAt w.heap.size w n il i.list ∧ LAt w.heap.size w n al a.list ∧ DataW.trod enc Tryz.prog w base spare held n' 28 [lv] = some y := by
  obtain ⟨ys, n', hn', hy, hlen, hyl, hf⟩ := DataW.trod_struct underS h
  have one : ∀ (j t o k : Nat), ([(3, 0, 1), (3, 1, 1), (3, 2, 1), (27, 3, 7), (4, 10, 1), (4, 11, 1), (25, 12, 5), (9, 17, 1), (28, 18, 1)] : List (TypeId × Nat × Nat))[j]? = some (t, o, k) → ∃ y, DataW.trod enc Tryz.prog w base spare held n' t ((cs.drop o).take k) = some y := by
    intro j t o k hx
    obtain ⟨f, hj, rfl, rfl, rfl⟩ := field_gen fieldsS_at j t o k hx
    have hjl : j < 9 := by rw [← sizeS]; exact (Array.getElem?_eq_some_iff.1 hj).1
    exact ⟨_, (hf j f hj).trans (List.getElem?_eq_getElem (by rw [hyl, sizeS]; omega))⟩
  match cs, hl with
  | [a0, a1, a2, a3, a4, a5, a6, a7, a8, a9, a10, a11, a12, a13, a14, a15, a16, a17, a18], _ =>
    obtain ⟨y0, t0⟩ := one 0 3 0 1 rfl
    obtain ⟨y1, t1⟩ := one 1 3 1 1 rfl
    obtain ⟨y2, t2⟩ := one 2 3 2 1 rfl
    obtain ⟨y3, t3⟩ := one 3 27 3 7 rfl
    obtain ⟨y4, t4⟩ := one 4 4 10 1 rfl
    obtain ⟨y5, t5⟩ := one 5 4 11 1 rfl
    obtain ⟨y6, t6⟩ := one 6 25 12 5 rfl
    obtain ⟨y7, t7⟩ := one 7 9 17 1 rfl
    obtain ⟨y8, t8⟩ := one 8 28 18 1 rfl
    obtain ⟨k, h0, _, w0⟩ := DataW.trod_int Tryz.underlying3 (show DataW.trod enc Tryz.prog w base spare held n' 3 [a0] = some y0 from t0)
    obtain ⟨sx, h1, _, w1⟩ := DataW.trod_int Tryz.underlying3 (show DataW.trod enc Tryz.prog w base spare held n' 3 [a1] = some y1 from t1)
    obtain ⟨o, h2, _, w2⟩ := DataW.trod_int Tryz.underlying3 (show DataW.trod enc Tryz.prog w base spare held n' 3 [a2] = some y2 from t2)
    obtain ⟨c, t, i, il, h3, wc, wt, fi, hi⟩ := open_fault (show DataW.trod enc Tryz.prog w base spare held n' 27 [a3, a4, a5, a6, a7, a8, a9] = some y3 from t3) rfl
    obtain ⟨f, h4, _⟩ := DataW.trod_bool Tryz.underlying4 (show DataW.trod enc Tryz.prog w base spare held n' 4 [a10] = some y4 from t4)
    obtain ⟨e, h5, _⟩ := DataW.trod_bool Tryz.underlying4 (show DataW.trod enc Tryz.prog w base spare held n' 4 [a11] = some y5 from t5)
    obtain ⟨a, al, h6, fa, ha⟩ := open_vt (show DataW.trod enc Tryz.prog w base spare held n' 25 [a12, a13, a14, a15, a16] = some y6 from t6) rfl
    obtain ⟨tx, h7, _, w7⟩ := DataW.trod_string Tryz.underlying9 (show DataW.trod enc Tryz.prog w base spare held n' 9 [a17] = some y7 from t7)
    simp only [VT.cells, List.cons.injEq, and_true] at h0 h1 h2 h3 h4 h5 h6 h7
    obtain ⟨q3, q4, q5, q6, q7, q8, q9⟩ := h3
    obtain ⟨q12, q13, q14, q15, q16⟩ := h6
    subst h0 h1 h2 h4 h5 h7 q3 q4 q5 q6 q7 q8 q9 q12 q13 q14 q15 q16
    exact ⟨k, sx, o, c, t, i, f, e, a, tx, _, _, a18, n', y8, hn', fun l => rfl, fun l => ⟨(wf_i64 w0).1, (wf_i64 w0).2, (wf_i64 w1).1, (wf_i64 w1).2, (wf_i64 w2).1, (wf_i64 w2).2, wc, wt, w7, fi, fa⟩, hi.mono (by omega), ha.mono (by omega), t8⟩

/-- A LIST OF STATES OPENED. -/
theorem open_states : ∀ {fuel : Nat} {v : Value} {x : DataW H × List MemPlace}, DataW.trod enc Tryz.prog w base spare held fuel 28 [v] = some x → ∃ ss, SAt w.heap.size (fuel + 1) w (fuel + 1) v ss := by
  intro fuel
  induction fuel using Nat.strongRecOn with
  | _ fuel ih =>
    intro v x h
    rcases DataW.trod_slice Tryz.underlying28 h with ⟨he, _⟩ | ⟨a, len, cap, elems, rest, n, hn, he, _, _, hlc, hcm, hlen, hel, _, _⟩
    · simp only [List.cons.injEq, and_true] at he
      exact ⟨[], .inl ⟨rfl, _, _, he⟩⟩
    · simp only [List.cons.injEq, and_true] at he
      rcases Nat.eq_zero_or_pos len with h0 | hpos
      · subst h0; exact ⟨[], .inl ⟨rfl, _, _, he⟩⟩
      · have key : ∀ i, i < len → ∃ s : ST, s.Fine ∧ ∃ il al lv, (∀ j u, (s.cells il al lv)[j]? = some u → w.cell? (a.add (i * 19 + j)) = some u) ∧ LAt w.heap.size w (fuel + 1) il s.info.list ∧ LAt w.heap.size w (fuel + 1) al s.ann.list ∧ SAt w.heap.size (fuel + 1) w fuel lv s.inner := by
          intro i hi
          have h1 := hel i hi
          rw [List.getElem?_eq_getElem (by omega)] at h1
          obtain ⟨cs', hc, ht'⟩ := Option.bind_eq_some_iff.1 h1
          rw [cellsS] at hc
          obtain ⟨_, hcl, hat⟩ := World.cells?_some hc
          obtain ⟨k, sx, o, c, t, ii, f, e, aa, tx, il, al, lv, n', y, hnn, hcs, hfine, hil, hal, hlist⟩ := open_state ht' hcl
          obtain ⟨ss, hss⟩ := ih n' (by omega) hlist
          refine ⟨.mk k sx o c t ii f e aa tx ss, hfine ss, il, al, lv, fun j u hu => ?_, hil.mono (by omega), hal.mono (by omega), hss.mono (by omega) (by omega)⟩
          have hj : j < 19 := by
            have := (List.getElem?_eq_some_iff.1 hu).1
            simpa [ST.cells] using this
          rw [← Go.Deep.add_add, hat j hj, hcs ss]
          exact hu
        obtain ⟨ss, hsl, hss⟩ := list_of len key
        have hsp : a.spot = none := by
          obtain ⟨s, hs⟩ : ∃ s, ss[0]? = some s := ⟨_, List.getElem?_eq_getElem (by omega)⟩
          obtain ⟨_, il, al, lv, hc, _⟩ := hss 0 s hs
          have := hc 0 _ rfl
          simpa [Addr.add] using World.cell?_spot this
        obtain ⟨b, off, spot⟩ := a
        simp only at hsp
        subst hsp
        have hat : ∀ i s, ss[i]? = some s → s.Fine ∧ ∃ il al lv, Cells w b (off + i * 19) (s.cells il al lv) ∧ LAt w.heap.size w (fuel + 1) il s.info.list ∧ LAt w.heap.size w (fuel + 1) al s.ann.list ∧ SAt w.heap.size (fuel + 1) w fuel lv s.inner := fun i s hs => by
          obtain ⟨hf, il, al, lv, hc, hl⟩ := hss i s hs
          refine ⟨hf, il, al, lv, fun j u hu => ?_, hl⟩
          have := hc j u hu
          rwa [add_plain, show off + (i * 19 + j) = off + i * 19 + j by omega] at this
        refine ⟨ss, .inr ⟨b, off, cap, by rw [hsl]; exact he, ?_, by omega, hat⟩⟩
        obtain ⟨s, hs⟩ : ∃ s, ss[0]? = some s := ⟨_, List.getElem?_eq_getElem (by omega)⟩
        obtain ⟨_, il, al, lv, hc, _⟩ := hat 0 s hs
        exact lt_of_cell (hc 0 _ rfl)
set_option maxRecDepth 100000 in
theorem open_argS {r : Reach} {b0 : Nat} {v : Value} {d : DataW H} {p : List MemPlace} (hv : Value.okWide Tryz.prog w r b0 30 v) (h : DataW.Trod enc Tryz.prog w base spare held 30 v d p) : ∃ N s, SVAt w.heap.size N w N v s := by
  obtain ⟨cs, rfl, hsz⟩ := okWide_struct underS hv
  obtain ⟨fuel, hf⟩ := h
  have hl : cs.toList.length = 19 := by rw [Array.length_toList, hsz]; exact cellsS
  obtain ⟨k, sx, o, c, t, ii, f, e, aa, tx, il, al, lv, n', y, hnn, hcs, hfine, hil, hal, hlist⟩ := open_state hf hl
  obtain ⟨ss, hss⟩ := open_states hlist
  refine ⟨fuel + 1, .mk k sx o c t ii f e aa tx ss, hfine ss, il, al, lv, ?_, hil.mono (by omega), hal.mono (by omega), hss.mono (by omega) (by omega)⟩
  rw [show cs = ((ST.mk k sx o c t ii f e aa tx ss).cells il al lv).toArray from Array.toList_inj.1 ((show cs.toList = _ from hcs ss).trans (by simp))]
  rfl
end
end Go.Proofs.YtckggmcjcdkfhaaGreatDoor.Va
