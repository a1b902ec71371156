/-
  R2: The arguments opened: a history with the sizes of its addresses; configurations. No condition.
  J22: The program's Judge at any history. No condition but the sizes.
-/
import Derived.Test.YtgincippgaecfaaR1
import Derived.Test.YtgincippgaecfaaJD
namespace Go.Proofs.Ytgincippgaecfaa.Au
open Go Go.RowKit Go.ChangeShapes Go.WideShapes Go.Deep

section
variable {H : Type} {enc : TypeId × Value → H} {w : World} {base : Nat} {spare : Nat → Bool} {held : Bool}

set_option maxRecDepth 100000 in
theorem open_entryQ {cs : List Value} {n : Nat} {x : DataW H × List MemPlace} (h : DataW.trod enc Try.prog w base spare held n 55 cs = some x) (hl : cs.length = 6) :
    ∃ e : Ent, cs = [.int .i64 e.kind, .int .i64 e.who, .string e.queue, .int .i64 e.msg, .int .i64 e.count, .bool e.dur] ∧ (Lit.int .i64 e.msg).wf = true ∧ (Lit.int .i64 e.count).wf = true ∧ (Lit.int .i64 e.kind).wf = true ∧ (Lit.int .i64 e.who).wf = true ∧ e.queue.size ≤ maxLen := by
  obtain ⟨ys, n', hn', hy, hlen, hyl, hf⟩ := DataW.trod_struct under55 h
  have one : ∀ (j : Nat) (t : TypeId), [3, 3, 9, 3, 3, 4][j]? = some t → ∃ v y, cs[j]? = some v ∧ DataW.trod enc Try.prog w base spare held n' t [v] = some y := by
    intro j t ht
    obtain ⟨f, hj, rfl⟩ := field55 j t ht
    obtain ⟨ho, hk⟩ := hone_of one55 j f hj
    have hjl : j < 6 := by rw [← size55]; exact (Array.getElem?_eq_some_iff.1 hj).1
    have h1 := hf j f hj
    rw [ho, hk] at h1
    have hone' : (cs.drop j).take 1 = [cs[j]'(by omega)] := by
      rw [List.drop_eq_getElem_cons (by omega)]
      rfl
    rw [hone'] at h1
    have hys : ys[j]? = some (ys[j]'(by rw [hyl, size55]; omega)) := List.getElem?_eq_getElem _
    exact ⟨_, _, List.getElem?_eq_getElem (by omega), h1.trans hys⟩
  obtain ⟨v0, y0, e0, t0⟩ := one 0 3 rfl
  obtain ⟨v1, y1, e1, t1⟩ := one 1 3 rfl
  obtain ⟨v2, y2, e2, t2⟩ := one 2 9 rfl
  obtain ⟨v3, y3, e3, t3⟩ := one 3 3 rfl
  obtain ⟨v4, y4, e4, t4⟩ := one 4 3 rfl
  obtain ⟨v5, y5, e5, t5⟩ := one 5 4 rfl
  obtain ⟨k0, hk0, _, w0⟩ := DataW.trod_int Try.underlying3 t0
  obtain ⟨k1, hk1, _, w1⟩ := DataW.trod_int Try.underlying3 t1
  obtain ⟨k2, hk2, _, w2⟩ := DataW.trod_string Try.underlying9 t2
  obtain ⟨k3, hk3, _, w3⟩ := DataW.trod_int Try.underlying3 t3
  obtain ⟨k4, hk4, _, w4⟩ := DataW.trod_int Try.underlying3 t4
  obtain ⟨k5, hk5, _⟩ := DataW.trod_bool Try.underlying4 t5
  simp only [List.cons.injEq, and_true] at hk0 hk1 hk2 hk3 hk4 hk5
  subst hk0 hk1 hk2 hk3 hk4 hk5
  refine ⟨⟨k0, k1, k2, k3, k4, k5⟩, ?_, w3, w4, w0, w1, w2⟩
  match cs, hl with
  | [a0, a1, a2, a3, a4, a5], _ =>
    simp at e0 e1 e2 e3 e4 e5
    simp [e0, e1, e2, e3, e4, e5]

/-- An entry's numbers and its address are within their range. -/
def Ent.fineQ (e : Ent) : Prop := (Lit.int .i64 e.msg).wf = true ∧ (Lit.int .i64 e.count).wf = true ∧ (Lit.int .i64 e.kind).wf = true ∧ (Lit.int .i64 e.who).wf = true ∧ e.queue.size ≤ maxLen

/-- THE ARGUMENT OPENED. -/
theorem open_histQ {fuel : Nat} {cs : List Value} {x : DataW H × List MemPlace} (h : DataW.trod enc Try.prog w base spare held fuel 23 cs = some x) :
    ∃ (sv : Value) (es : List Ent), cs = [sv] ∧ HistAt w.heap.size w sv es ∧ (∀ e ∈ es, e.fineQ) ∧ (∀ p c, sv = .slice p es.length c → es.length ≤ c) ∧ ((x.1 = .nil ∧ es = []) ∨ ∃ l r, x.1 = .slice l r ∧ l.length = es.length) := by
  rcases open_slice Try.underlying23 h with ⟨rfl, rfl⟩ | ⟨a, len, cap, m, n, D, Pl, hcs, hb, hl, hm, hmm, hx, hi⟩
  · exact ⟨_, [], rfl, .inl ⟨_, _, rfl, rfl⟩, by simp, fun _ _ _ => Nat.zero_le _, .inl ⟨rfl, rfl⟩⟩
  · subst hcs
    rcases Nat.eq_zero_or_pos len with h0 | hpos
    · subst h0
      exact ⟨_, [], rfl, .inl ⟨_, _, rfl, rfl⟩, by simp, fun _ _ _ => Nat.zero_le _, .inr ⟨_, _, by rw [hx], by simp⟩⟩
    · have hlm : len ≤ m := by rw [hmm]; split <;> omega
      obtain ⟨es, hel, hes⟩ := list_of (Q := fun i e => (∀ j u, e.val.cells.toList[j]? = some u → w.cell? (a.add (i * 6 + j)) = some u) ∧ Ent.fineQ e) len fun i him => by
        obtain ⟨cs', hc, ht'⟩ := hi i (by omega)
        rw [cells55] at hc
        obtain ⟨_, hcl, hat⟩ := World.cells?_some hc
        obtain ⟨e, rfl, f1⟩ := open_entryQ ht' hcl
        refine ⟨e, fun j u hu => ?_, f1⟩
        have hj : j < 6 := by
          have := (List.getElem?_eq_some_iff.1 hu).1
          simpa [Ent.val, Value.cells] using this
        rw [← Go.Deep.add_add, hat j hj]
        simpa [Ent.val, Value.cells] using hu
      have hsp : a.spot = none := by
        obtain ⟨e, he⟩ : ∃ e, es[0]? = some e := ⟨_, List.getElem?_eq_getElem (by omega)⟩
        have := (hes 0 e he).1 0 (.int .i64 e.kind) rfl
        simpa [Addr.add] using World.cell?_spot this
      obtain ⟨b, off, spot⟩ := a
      simp only at hsp
      subst hsp
      have hat : ∀ i e, es[i]? = some e → EntAt w b (off + i * 6) e := fun i e he => by
        have hh := (hes i e he).1
        have k : ∀ j u, e.val.cells.toList[j]? = some u → w.cell? ⟨b, off + i * 6 + j, none⟩ = some u := fun j u hu => by
          have := hh j u hu
          rwa [add_plain, show off + (i * 6 + j) = off + i * 6 + j by omega] at this
        exact ⟨k 0 _ rfl, k 1 _ rfl, k 2 _ rfl, k 3 _ rfl, k 4 _ rfl, k 5 _ rfl⟩
      refine ⟨_, es, rfl, .inr ⟨b, off, cap, by rw [hel], ?_, hat⟩, fun e he => ?_, fun p c e => ?_, .inr ⟨_, _, by rw [hx], by simp [hel]⟩⟩
      · obtain ⟨e, he⟩ : ∃ e, es[0]? = some e := ⟨_, List.getElem?_eq_getElem (by omega)⟩
        exact World.block_lt_of_cell? _ _ (hat 0 e he).kind
      · obtain ⟨i, hi', rfl⟩ := List.getElem_of_mem he
        exact (hes i _ (List.getElem?_eq_getElem hi')).2
      · simp only [Value.slice.injEq] at e
        rw [hel, ← e.2.2]; exact hl
end

section
variable {H : Type} {enc : TypeId × Value → H} {w : World} {base : Nat} {spare : Nat → Bool} {held : Bool}

noncomputable def fields27 : Array Field := match Try.prog.underlying 27 with | some (.struct fs) => fs | _ => #[]
theorem under27 : Try.prog.underlying 27 = some (.struct fields27) := by kernel_rfl
theorem size27 : fields27.size = 5 := by kernel_rfl
theorem cells27 : Try.prog.cellsOf 27 = 5 := by kernel_rfl
theorem bytes27 : Try.prog.bytesOf 27 = 56 := by kernel_rfl
theorem one27 : oneCellFields Try.prog fields27 = true := by kernel_rfl
theorem types27 : fields27.toList.map (·.type) = [9, 3, 9, 3, 4] := by kernel_rfl

theorem field27 (j : Nat) (t : TypeId) (h : [9, 3, 9, 3, 4][j]? = some t) : ∃ f : Field, fields27[j]? = some f ∧ f.type = t := by
  rw [← types27, List.getElem?_map] at h
  rw [Array.getElem?_toList] at h
  cases hf : fields27[j]? with
  | none => rw [hf] at h; cases h
  | some f => rw [hf] at h; exact ⟨f, rfl, by simpa using h⟩

def Qc.cells (c : Qc) : List Value := [.string c.name, .int .i64 c.most, .string c.dead, .int .i64 c.tries, .bool c.durable]
def Qc.fine (c : Qc) : Prop := c.name.size ≤ maxLen ∧ c.dead.size ≤ maxLen

set_option maxRecDepth 100000 in
theorem open_config {cs : List Value} {n : Nat} {x : DataW H × List MemPlace} (h : DataW.trod enc Try.prog w base spare held n 27 cs = some x) (hl : cs.length = 5) :
    ∃ c : Qc, cs = c.cells ∧ c.fine := by
  obtain ⟨ys, n', hn', hy, hlen, hyl, hf⟩ := DataW.trod_struct under27 h
  have one : ∀ (j : Nat) (t : TypeId), [9, 3, 9, 3, 4][j]? = some t → ∃ v y, cs[j]? = some v ∧ DataW.trod enc Try.prog w base spare held n' t [v] = some y := by
    intro j t ht
    obtain ⟨f, hj, rfl⟩ := field27 j t ht
    obtain ⟨ho, hk⟩ := hone_of one27 j f hj
    have hjl : j < 5 := by rw [← size27]; exact (Array.getElem?_eq_some_iff.1 hj).1
    have h1 := hf j f hj
    rw [ho, hk] at h1
    have hone' : (cs.drop j).take 1 = [cs[j]'(by omega)] := by
      rw [List.drop_eq_getElem_cons (by omega)]
      rfl
    rw [hone'] at h1
    have hys : ys[j]? = some (ys[j]'(by rw [hyl, size27]; omega)) := List.getElem?_eq_getElem _
    exact ⟨_, _, List.getElem?_eq_getElem (by omega), h1.trans hys⟩
  obtain ⟨v0, y0, e0, t0⟩ := one 0 9 rfl
  obtain ⟨v1, y1, e1, t1⟩ := one 1 3 rfl
  obtain ⟨v2, y2, e2, t2⟩ := one 2 9 rfl
  obtain ⟨v3, y3, e3, t3⟩ := one 3 3 rfl
  obtain ⟨v4, y4, e4, t4⟩ := one 4 4 rfl
  obtain ⟨k0, hk0, _, w0⟩ := DataW.trod_string Try.underlying9 t0
  obtain ⟨k1, hk1, _, w1⟩ := DataW.trod_int Try.underlying3 t1
  obtain ⟨k2, hk2, _, w2⟩ := DataW.trod_string Try.underlying9 t2
  obtain ⟨k3, hk3, _, w3⟩ := DataW.trod_int Try.underlying3 t3
  obtain ⟨k4, hk4, _⟩ := DataW.trod_bool Try.underlying4 t4
  simp only [List.cons.injEq, and_true] at hk0 hk1 hk2 hk3 hk4
  subst hk0 hk1 hk2 hk3 hk4
  refine ⟨⟨k0, k1, k2, k3, k4⟩, ?_, w0, w2⟩
  match cs, hl with
  | [a0, a1, a2, a3, a4], _ =>
    simp at e0 e1 e2 e3 e4
    simp [Qc.cells, e0, e1, e2, e3, e4]

/-- THE ARGUMENT OPENED. -/
theorem open_configs {fuel : Nat} {cs : List Value} {x : DataW H × List MemPlace} (h : DataW.trod enc Try.prog w base spare held fuel 22 cs = some x) :
    ∃ (sv : Value) (es : List Qc), cs = [sv] ∧ QsAt w.heap.size w sv es ∧ (∀ e ∈ es, e.fine) ∧ (∀ p c, sv = .slice p es.length c → es.length ≤ c) ∧ ((x.1 = .nil ∧ es = []) ∨ ∃ l r, x.1 = .slice l r ∧ l.length = es.length) := by
  rcases open_slice Try.underlying22 h with ⟨rfl, rfl⟩ | ⟨a, len, cap, m, n, D, Pl, hcs, hb, hl, hm, hmm, hx, hi⟩
  · exact ⟨_, [], rfl, .inl ⟨_, _, rfl, rfl⟩, by simp, fun _ _ _ => Nat.zero_le _, .inl ⟨rfl, rfl⟩⟩
  · subst hcs
    rcases Nat.eq_zero_or_pos len with h0 | hpos
    · subst h0
      exact ⟨_, [], rfl, .inl ⟨_, _, rfl, rfl⟩, by simp, fun _ _ _ => Nat.zero_le _, .inr ⟨_, _, by rw [hx], by simp⟩⟩
    · have hlm : len ≤ m := by rw [hmm]; split <;> omega
      obtain ⟨es, hel, hes⟩ := list_of (Q := fun i e => (∀ j u, e.cells[j]? = some u → w.cell? (a.add (i * 5 + j)) = some u) ∧ Qc.fine e) len fun i him => by
        obtain ⟨cs', hc, ht'⟩ := hi i (by omega)
        rw [cells27] at hc
        obtain ⟨_, hcl, hat⟩ := World.cells?_some hc
        obtain ⟨e, rfl, f1⟩ := open_config ht' hcl
        refine ⟨e, fun j u hu => ?_, f1⟩
        have hj : j < 5 := by
          have := (List.getElem?_eq_some_iff.1 hu).1
          simpa [Qc.cells] using this
        rw [← Go.Deep.add_add, hat j hj]
        simpa [Qc.cells] using hu
      have hsp : a.spot = none := by
        obtain ⟨e, he⟩ : ∃ e, es[0]? = some e := ⟨_, List.getElem?_eq_getElem (by omega)⟩
        have := (hes 0 e he).1 0 (.string e.name) rfl
        simpa [Addr.add] using World.cell?_spot this
      obtain ⟨b, off, spot⟩ := a
      simp only at hsp
      subst hsp
      have hat : ∀ i e, es[i]? = some e → QcAt w b (off + i * 5) e := fun i e he => by
        have hh := (hes i e he).1
        have k : ∀ j u, e.cells[j]? = some u → w.cell? ⟨b, off + i * 5 + j, none⟩ = some u := fun j u hu => by
          have := hh j u hu
          rwa [add_plain, show off + (i * 5 + j) = off + i * 5 + j by omega] at this
        exact ⟨k 0 _ rfl, k 1 _ rfl, k 2 _ rfl, k 3 _ rfl, k 4 _ rfl⟩
      refine ⟨_, es, rfl, .inr ⟨b, off, cap, by rw [hel], ?_, hat⟩, fun e he => ?_, fun p c e => ?_, .inr ⟨_, _, by rw [hx], by simp [hel]⟩⟩
      · obtain ⟨e, he⟩ : ∃ e, es[0]? = some e := ⟨_, List.getElem?_eq_getElem (by omega)⟩
        exact World.block_lt_of_cell? _ _ (hat 0 e he).name
      · obtain ⟨i, hi', rfl⟩ := List.getElem_of_mem he
        exact (hes i _ (List.getElem?_eq_getElem hi')).2
      · simp only [Value.slice.injEq] at e
        rw [hel, ← e.2.2]; exact hl
end

end Go.Proofs.Ytgincippgaecfaa.Au

namespace Go.Proofs.Ytgincippgaecfaa.Au
open Go Go.RowKit

theorem histE_all {es : List Ent} (h : histE es = 0) : ∀ e ∈ es, okE e = true := by
  unfold histE at h
  split at h
  · cases h
  · split at h
    · rename_i h2; exact List.all_eq_true.1 h2
    · cases h

set_option maxRecDepth 100000 in
set_option maxHeartbeats 1000000 in
/-- The program's Judge (no condition but the sizes). -/
theorem pjudge_any (n : Nat) (sv hv : Value) (qs : List Qc) (es : List Ent) (w : World) (hq : qs.length * 56 ≤ 140737488351232) (hs : QsAt n w sv qs) (h : HistAt n w hv es) (hn : n ≤ w.heap.size) (hw : ∀ e ∈ es, e.fineQ) (hz : ∀ c ∈ qs, c.fine) :
    Calls Try.prog 10 #[sv, hv] w fun r w' => r = .returned (judgeAns qs es) ∧ Below w.heap.size w w' := by
  obtain ⟨a, cap, rfl⟩ := hs.len
  obtain ⟨a2, cap2, rfl⟩ := h.len
  by_cases hh : histE es = 0
  · rw [judgeAns_good hh]
    exact pjudge_good n a a2 cap cap2 qs es w hq hs h hn hh (fun e he => ⟨histE_all hh e he, (hw e he).1, (hw e he).2.1, (hw e he).2.2.2.1, (hw e he).2.2.2.2⟩) hz
  · rw [judgeAns_bad hh]
    have hh' := amiss_any n _ es w h hn
    obtain ⟨x, hx⟩ : ∃ x, histE es = x := ⟨_, rfl⟩
    rw [hx] at hh' hh ⊢
    have hx2 : (x != 0) = true := by simpa using hh
    clear hs h hx hw hz
    go_enter Try.func10, Try.ntmps10
    go_wp2_with (first
      | (go_at_call 20; refine hh'.mono ?_; clear hh'; rintro r w1 ⟨rfl, hb1⟩)
      | go_in)
    go_ret3
    exact ⟨rfl, hb1⟩

end Go.Proofs.Ytgincippgaecfaa.Au
