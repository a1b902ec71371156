/-
  A value as an argument: what the row reads opened to a tree. No condition.
-/
import Derived.Test.YtfoiaiblggapeaaGreatDoorProg
import Derived.Test.YtfoiaiblggapeaaGreatDoorNuTree
import Derived.Deep.Slices
import Derived.Deep.Fields
import Derived.ChangeSame
import Derived.SizedLaws
import Derived.ProofKit
namespace Go.Proofs.YtfoiaiblggapeaaGreatDoor.Va
open Go Go.RowKit Go.ChangeShapes Go.WideShapes Go.Deep Go.Proofs.Nu

noncomputable def fieldsV : Array Field := match Tryz.prog.underlying 42 with | some (.struct fs) => fs | _ => #[]
theorem underV : Tryz.prog.underlying 42 = some (.struct fieldsV) := by kernel_rfl
theorem sizeV : fieldsV.size = 5 := by kernel_rfl
theorem cellsV : Tryz.prog.cellsOf 42 = 5 := by kernel_rfl
theorem bytesV : Tryz.prog.bytesOf 42 = 64 := by kernel_rfl
theorem oneV : oneCellFields Tryz.prog fieldsV = true := by kernel_rfl
theorem typesV : fieldsV.toList.map (·.type) = [3, 40, 9, 31, 3] := by kernel_rfl
theorem fieldV (j : Nat) (t : TypeId) (h : [3, 40, 9, 31, 3][j]? = some t) : ∃ f : Field, fieldsV[j]? = some f ∧ f.type = t := by
  rw [← typesV, List.getElem?_map] at h
  rw [Array.getElem?_toList] at h
  cases hf : fieldsV[j]? with
  | none => rw [hf] at h; cases h
  | some f => rw [hf] at h; exact ⟨f, rfl, by simpa using h⟩
theorem list_of {α : Type} {Q : Nat → α → Prop} : ∀ n : Nat, (∀ i, i < n → ∃ e, Q i e) → ∃ es : List α, es.length = n ∧ ∀ i e, es[i]? = some e → Q i e
  | 0, _ => ⟨[], rfl, fun i e h => by simp at h⟩
  | n + 1, h => by
    obtain ⟨es, hl, he⟩ := list_of n fun i hi => h i (by omega)
    obtain ⟨e, hq⟩ := h n (by omega)
    refine ⟨es ++ [e], by simp [hl], fun i x hx => ?_⟩
    rcases Nat.lt_or_ge i es.length with hi | hi
    · rw [List.getElem?_append_left hi] at hx
      exact he i x hx
    · rw [List.getElem?_append_right hi] at hx
      have : i - es.length = 0 := by
        have := (List.getElem?_eq_some_iff.1 hx).1
        simp at this
        omega
      rw [this] at hx
      simp at hx
      subst hx
      obtain rfl : i = n := by omega
      exact hq

section
variable {H : Type} {enc : TypeId × Value → H} {w : World} {base : Nat} {spare : Nat → Bool} {held : Bool}
theorem wf_i64 {k : Int} (h : (Lit.int .i64 k).wf = true) : -9223372036854775808 ≤ k ∧ k ≤ 9223372036854775807 := by
  have h' : (decide (IntKind.i64.min ≤ k) && decide (k ≤ IntKind.i64.max)) = true := h
  simp only [Bool.and_eq_true, decide_eq_true_eq] at h'
  exact h'
theorem wf_u64 {k : Int} (h : (Lit.int .u64 k).wf = true) : 0 ≤ k ∧ k ≤ 18446744073709551615 := by
  have h' : (decide (IntKind.u64.min ≤ k) && decide (k ≤ IntKind.u64.max)) = true := h
  simp only [Bool.and_eq_true, decide_eq_true_eq] at h'
  exact h'
set_option maxRecDepth 100000 in
/-- A struct's cells, one field after another. -/
theorem open_value {cs : List Value} {n : Nat} {x : DataW H × List MemPlace} (h : DataW.trod enc Tryz.prog w base spare held n 42 cs = some x) (hl : cs.length = 5) :
    ∃ (k m : Int) (s : ByteArray) (lv : Value) (e : Int) (n' : Nat) (y : DataW H × List MemPlace), n = n' + 1 ∧ cs = [.int .i64 k, .int .u64 m, .string s, lv, .int .i64 e] ∧ (∀ l, (VT.mk k m s e l).Fine) ∧ DataW.trod enc Tryz.prog w base spare held n' 31 [lv] = some y := by
  obtain ⟨ys, n', hn', hy, hlen, hyl, hf⟩ := DataW.trod_struct underV h
  have one : ∀ (j : Nat) (t : TypeId), [3, 40, 9, 31, 3][j]? = some t → ∃ v y, cs[j]? = some v ∧ DataW.trod enc Tryz.prog w base spare held n' t [v] = some y := by
    intro j t ht
    obtain ⟨f, hj, rfl⟩ := fieldV j t ht
    obtain ⟨ho, hk⟩ := hone_of oneV j f hj
    have hjl : j < 5 := by rw [← sizeV]; exact (Array.getElem?_eq_some_iff.1 hj).1
    have h1 := hf j f hj
    rw [ho, hk] at h1
    have hone' : (cs.drop j).take 1 = [cs[j]'(by omega)] := by
      rw [List.drop_eq_getElem_cons (by omega)]
      rfl
    rw [hone'] at h1
    have hys : ys[j]? = some (ys[j]'(by rw [hyl, sizeV]; omega)) := List.getElem?_eq_getElem _
    exact ⟨_, _, List.getElem?_eq_getElem (by omega), h1.trans hys⟩
  obtain ⟨v0, y0, e0, t0⟩ := one 0 3 rfl
  obtain ⟨v1, y1, e1, t1⟩ := one 1 40 rfl
  obtain ⟨v2, y2, e2, t2⟩ := one 2 9 rfl
  obtain ⟨v3, y3, e3, t3⟩ := one 3 31 rfl
  obtain ⟨v4, y4, e4, t4⟩ := one 4 3 rfl
  obtain ⟨k0, hk0, _, w0⟩ := DataW.trod_int Tryz.underlying3 t0
  obtain ⟨k1, hk1, _, w1⟩ := DataW.trod_int Tryz.underlying40 t1
  obtain ⟨k2, hk2, _, w2⟩ := DataW.trod_string Tryz.underlying9 t2
  obtain ⟨k4, hk4, _, w4⟩ := DataW.trod_int Tryz.underlying3 t4
  simp only [List.cons.injEq, and_true] at hk0 hk1 hk2 hk4
  subst hk0 hk1 hk2 hk4
  refine ⟨k0, k1, k2, v3, k4, n', y3, hn', ?_, fun l => ⟨(wf_i64 w0).1, (wf_i64 w0).2, (wf_u64 w1).1, (wf_u64 w1).2, (wf_i64 w4).1, (wf_i64 w4).2, w2⟩, t3⟩
  match cs, hl with
  | [a0, a1, a2, a3, a4], _ =>
    simp at e0 e1 e2 e3 e4
    simp [e0, e1, e2, e3, e4]

theorem add_plain (b off j : Nat) : (⟨b, off, none⟩ : Addr).add j = ⟨b, off + j, none⟩ := by
  unfold Addr.add
  split
  · rename_i h; subst h; rfl
  · rfl
theorem lt_of_cell {b o : Nat} {v : Value} (h : w.cell? ⟨b, o, none⟩ = some v) : b < w.heap.size := by
  rcases Nat.lt_or_ge b w.heap.size with h' | h'
  · exact h'
  · exfalso
    unfold World.cell? at h
    rw [show w.heap[b]? = none from Array.getElem?_eq_none h'] at h
    cases h

/-- A LIST OF VALUES OPENED. -/
theorem open_list : ∀ {fuel : Nat} {v : Value} {x : DataW H × List MemPlace}, DataW.trod enc Tryz.prog w base spare held fuel 31 [v] = some x → ∃ ts, LAt w.heap.size w (fuel + 1) v ts := by
  intro fuel
  induction fuel using Nat.strongRecOn with
  | _ fuel ih =>
    intro v x h
    rcases DataW.trod_slice Tryz.underlying31 h with ⟨he, _⟩ | ⟨a, len, cap, elems, rest, n, hn, he, _, _, hlc, hcm, hlen, hel, _, _⟩
    · simp only [List.cons.injEq, and_true] at he
      exact ⟨[], .inl ⟨rfl, _, _, he⟩⟩
    · simp only [List.cons.injEq, and_true] at he
      rcases Nat.eq_zero_or_pos len with h0 | hpos
      · subst h0; exact ⟨[], .inl ⟨rfl, _, _, he⟩⟩
      · have key : ∀ i, i < len → ∃ t : VT, t.Fine ∧ ∃ lv, (∀ j u, (t.cells lv)[j]? = some u → w.cell? (a.add (i * 5 + j)) = some u) ∧ LAt w.heap.size w fuel lv t.list := by
          intro i hi
          have h1 := hel i hi
          rw [List.getElem?_eq_getElem (by omega)] at h1
          obtain ⟨cs', hc, ht'⟩ := Option.bind_eq_some_iff.1 h1
          rw [cellsV] at hc
          obtain ⟨_, hcl, hat⟩ := World.cells?_some hc
          obtain ⟨k, m, s, lv, e, n', y, hnn, rfl, hfine, hlist⟩ := open_value ht' hcl
          obtain ⟨ts, hts⟩ := ih n' (by omega) hlist
          refine ⟨.mk k m s e ts, hfine ts, lv, fun j u hu => ?_, hts.mono (by omega)⟩
          have hj : j < 5 := by
            have := (List.getElem?_eq_some_iff.1 hu).1
            simpa [VT.cells] using this
          rw [← Go.Deep.add_add, hat j hj]
          exact hu
        obtain ⟨ts, htl, hts⟩ := list_of len key
        have hsp : a.spot = none := by
          obtain ⟨t, ht⟩ : ∃ t, ts[0]? = some t := ⟨_, List.getElem?_eq_getElem (by omega)⟩
          obtain ⟨_, lv, hc, _⟩ := hts 0 t ht
          have := hc 0 _ rfl
          simpa [Addr.add] using World.cell?_spot this
        obtain ⟨b, off, spot⟩ := a
        simp only at hsp
        subst hsp
        have hat : ∀ i t, ts[i]? = some t → t.Fine ∧ ∃ lv, At5 w b (off + i * 5) t lv ∧ LAt w.heap.size w fuel lv t.list := fun i t ht => by
          obtain ⟨hf, lv, hc, hl⟩ := hts i t ht
          have k : ∀ j u, (t.cells lv)[j]? = some u → w.cell? ⟨b, off + i * 5 + j, none⟩ = some u := fun j u hu => by
            have := hc j u hu
            rwa [add_plain, show off + (i * 5 + j) = off + i * 5 + j by omega] at this
          exact ⟨hf, lv, ⟨k 0 _ rfl, k 1 _ rfl, k 2 _ rfl, k 3 _ rfl, k 4 _ rfl⟩, hl⟩
        refine ⟨ts, .inr ⟨b, off, cap, by rw [htl]; exact he, ?_, by omega, hat⟩⟩
        obtain ⟨t, ht⟩ : ∃ t, ts[0]? = some t := ⟨_, List.getElem?_eq_getElem (by omega)⟩
        obtain ⟨_, lv, hc, _⟩ := hat 0 t ht
        exact lt_of_cell hc.kind
end
end Go.Proofs.YtfoiaiblggapeaaGreatDoor.Va
