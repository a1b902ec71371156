/-
  A state is weighed; greatState. No condition but that the state lies so.
-/
import Derived.Test.YtckggmcjcdkfhaaGreatDoorS2
import Derived.Test.YtckggmcjcdkfhaaGreatDoorNuStt
import Derived.Deep.MidRow
namespace Go.Proofs.YtckggmcjcdkfhaaGreatDoor.Va
open Go Go.RowKit Go.Proofs.Nu

theorem load_state {w : World} {b o : Nat} {s : ST} {il al lv : Value} (h : Cells w b o (s.cells il al lv)) : (Instr.loadAt 30 (.pointer (some ⟨b, o, none⟩))).run Tryz.prog w = .ok (s.agg il al lv) w :=
  Go.run_loadAt_mid w b o 30 (s.cells il al lv) _ h Tryz.underlying30 rfl (by kernel_rfl)
theorem load_value {w : World} {b o : Nat} {t : VT} {lv : Value} (h : Cells w b o (t.cells lv)) : (Instr.loadAt 25 (.pointer (some ⟨b, o, none⟩))).run Tryz.prog w = .ok (t.agg lv) w :=
  Go.run_loadAt_mid w b o 25 (t.cells lv) _ h Tryz.underlying25 rfl (by kernel_rfl)
theorem load_slice {w : World} {a : Addr} {v : Value} (h : w.cell? a = some v) : (Instr.loadAt 28 (.pointer (some a))).run Tryz.prog w = .ok v w := by
  have := Tryz.underlying28
  have := Tryz.sizeOf28
  go_simp
theorem Cells.info {w : World} {b o : Nat} {s : ST} {il al lv : Value} (h : Cells w b o (s.cells il al lv)) : Cells w b (o + 5) (s.info.cells il) := fun j u hu => by
  have hj : j < 5 := (List.getElem?_eq_some_iff.1 hu).1
  have := h (5 + j) u (by
    match j, hj with
    | 0, _ => exact hu
    | 1, _ => exact hu
    | 2, _ => exact hu
    | 3, _ => exact hu
    | 4, _ => exact hu)
  rwa [← Nat.add_assoc] at this
theorem Cells.ann {w : World} {b o : Nat} {s : ST} {il al lv : Value} (h : Cells w b o (s.cells il al lv)) : Cells w b (o + 12) (s.ann.cells al) := fun j u hu => by
  have hj : j < 5 := (List.getElem?_eq_some_iff.1 hu).1
  have := h (12 + j) u (by
    match j, hj with
    | 0, _ => exact hu
    | 1, _ => exact hu
    | 2, _ => exact hu
    | 3, _ => exact hu
    | 4, _ => exact hu)
  rwa [← Nat.add_assoc] at this
theorem cells_new {w : World} {cs : List Value} {T : TypeId} : Cells (w.alloc (.cells cs.toArray T)) w.heap.size 0 cs := Cells.of_heap (heap_alloc_new _ _)
attribute [-go_sem] Go.Instr.loadAt
def SwS (n : Nat) : Prop := ∀ (B N : Nat) (s : ST) (il al lv : Value) (q : Nat) (w : World), s.Fine → LAt B w N il s.info.list → LAt B w N al s.ann.list → SAt B N w n lv s.inner → B ≤ w.heap.size → q ≤ 10000 →
    Calls Tryz.prog 49 #[s.agg il al lv, .int .i64 q] w fun r w' => r = .returned (.int .i64 (swt s q : Nat)) ∧ Below w.heap.size w w'
set_option maxRecDepth 100000 in
set_option maxHeartbeats 2000000 in
theorem sweighs : ∀ n, SwS n := by
  intro n
  induction n with
  | zero => intro B N s il al lv q w _ _ _ h; exact h.elim
  | succ n ih =>
    intro B N s il al lv q w hf hil hal hlv hB hq
    have HS := Lib.hid ih
    have HL := Lib.hid hlv
    obtain ⟨p, c, rfl⟩ := hlv.slice
    have hlen : s.inner.length ≤ 9223372036854775807 := hlv.len
    have HG : Hid (∀ W2, (w.alloc (.cells (s.cells il al (.slice p s.inner.length c)).toArray 30)).alloc (.cells #[.int .i64 s.info.kind, .int .u64 s.info.num, .string s.info.text, il, .int .i64 s.info.elem, .int .i64 s.ann.kind, .int .u64 s.ann.num, .string s.ann.text, al, .int .i64 s.ann.elem] 25) = W2 →
        Calls Tryz.prog 17 #[.slice (some ⟨w.heap.size + 1, 0, none⟩) 2 2] W2 (fun r w' => r = .returned (.bool s.gr) ∧ Below W2.heap.size W2 w') ∧ W2.heap[w.heap.size]? = some (.cells (s.cells il al (.slice p s.inner.length c)).toArray 30 (0, 0)) ∧ W2.heap.size = w.heap.size + 2 ∧ Below w.heap.size w W2) := fun W2 hW2 => by
      obtain ⟨h1, h2, h3, h4⟩ := two_blocks hW2
      have hb : Below B w W2 := h4.mono hB
      exact ⟨greatAll_any (B := W2.heap.size) (pair_lat h2 (by omega) hf.i hf.a ((hil.below hb).up (by omega)) ((hal.below hb).up (by omega))) (Nat.le_refl _), h1, h3, h4⟩
    have hld1 : (Instr.loadAt 25 (.pointer (some ⟨w.heap.size, 5, none⟩))).run Tryz.prog (w.alloc (.cells #[.int .i64 s.kind, .int .i64 s.section_, .int .i64 s.offset, .string s.cond, .string s.text, .int .i64 s.info.kind, .int .u64 s.info.num, .string s.info.text, il, .int .i64 s.info.elem, .bool s.failed, .bool s.elsewhere, .int .i64 s.ann.kind, .int .u64 s.ann.num, .string s.ann.text, al, .int .i64 s.ann.elem, .string s.txn, .slice p s.inner.length c] 30)) = .ok (.agg #[.int .i64 s.info.kind, .int .u64 s.info.num, .string s.info.text, il, .int .i64 s.info.elem]) _ := load_value (Cells.info (s := s) (il := il) (al := al) (lv := .slice p s.inner.length c) cells_new)
    have hld2 : (Instr.loadAt 25 (.pointer (some ⟨w.heap.size, 12, none⟩))).run Tryz.prog (w.alloc (.cells #[.int .i64 s.kind, .int .i64 s.section_, .int .i64 s.offset, .string s.cond, .string s.text, .int .i64 s.info.kind, .int .u64 s.info.num, .string s.info.text, il, .int .i64 s.info.elem, .bool s.failed, .bool s.elsewhere, .int .i64 s.ann.kind, .int .u64 s.ann.num, .string s.ann.text, al, .int .i64 s.ann.elem, .string s.txn, .slice p s.inner.length c] 30)) = .ok (.agg #[.int .i64 s.ann.kind, .int .u64 s.ann.num, .string s.ann.text, al, .int .i64 s.ann.elem]) _ := load_value (Cells.ann (s := s) (il := il) (al := al) (lv := .slice p s.inner.length c) cells_new)
    clear hlv ih hil hal hf
    have HSW := Lib.hid (swt_eq s q)
    go_enter Tryz.func49, Tryz.ntmps49
    go_wp2_with (fail)
    clear hld1 hld2
    generalize hW2 : World.alloc _ _ = W2
    obtain ⟨hG, hh, hz, hb2⟩ := HG.out W2 hW2
    clear hW2 HG
    refine hG.mono ?_
    rintro r w3 ⟨rfl, hb3⟩
    have HB3 := Lib.hid (hb2.trans (hb3.mono (by omega)))
    have HK : Hid (∀ w', Below (w.heap.size + 2) w3 w' → w'.cell? ⟨w.heap.size, 18, none⟩ = some (.slice p s.inner.length c)) := fun w' h => by
      rw [h.cell (p := ⟨w.heap.size, 18, none⟩) (by show w.heap.size < _; omega), hb3.cell (p := ⟨w.heap.size, 18, none⟩) (by show w.heap.size < _; omega)]
      exact Cells.of_heap hh 18 _ rfl
    have hz3 : w.heap.size + 2 ≤ w3.heap.size := by have := hb3.size; omega
    clear hG hh hz hb2 hb3
    obtain ⟨m, hm⟩ : ∃ m, s.inner.length = m := ⟨_, rfl⟩
    have Hm := Lib.hid hm
    rw [hm] at hlen HK HL ⊢
    clear hm
    obtain ⟨g, hg⟩ : ∃ g, s.gr = g := ⟨_, rfl⟩
    rw [hg] at HSW ⊢
    clear hg
    cases g with
    | true =>
      have HQ0 : Hid (swts (s.inner.drop 0) (q + 1 + 20000) = swt s q) := by
        have h := HSW.out
        rw [if_pos rfl] at h
        show swts (s.inner.drop 0) _ = _
        rw [List.drop_zero, h]
      clear HSW
      have hq1 : IntKind.i64.wrap ((q : Int) + 1) = q + 1 := by rw [IntKind.wrap_i64]; omega
      have hq2 : IntKind.i64.wrap ((q : Int) + 1 + 20000) = q + 1 + 20000 := by rw [IntKind.wrap_i64]; omega
      go_wp2
      go_loopw [1, 6] (fun v i wr => ∃ (j q' : Nat), v = .int .i64 q' ∧ i = .int .i64 j ∧ j ≤ m ∧ Hid (swts (s.inner.drop j) q' = swt s q) ∧ Hid (Below w3.heap.size w3 wr)) (fun _ i _ => m - (intOf i).toNat)
      case atStart => exact ⟨0, q + 1 + 20000, by simp, rfl, Nat.zero_le _, HQ0, Below.refl _ _⟩
      case round =>
        obtain ⟨j, q', rfl, rfl, hj, HQ, hb⟩ := hrel
        have d18 := load_slice (HK.out wr (hb.out.mono hz3))
        have hend : ∀ (q0 : Nat), ¬ j < m ∨ 10000 < q' → (q' : Int) = (swt s q : Nat) := fun _ h => by
          have := HQ.out
          rcases h with h | h
          · obtain rfl : j = m := by omega
            rw [← Hm.out, swts_end] at this; omega
          · rw [swts_big _ h] at this; omega
        have hE := Lib.hid hend; clear hend
        by_cases hlt : j < m
        · have hlt' : (j : Int) < (m : Int) := by omega
          by_cases hqq : q' ≤ 10000
          · rcases HL.out with ⟨h0, _⟩ | ⟨b, off, c', hp, hbB, _, hel⟩
            · rw [← Hm.out, h0] at hlt; exact absurd hlt (by simp)
            rw [Hm.out] at hp
            cases hp
            obtain ⟨t, ht⟩ : ∃ t, s.inner[j]? = some t := ⟨_, List.getElem?_eq_getElem (by rw [Hm.out]; exact hlt)⟩
            obtain ⟨tf, il', al', lv', hc, hi', ha', hl'⟩ := hel j t ht
            have hbw : Below B w wr := (HB3.out.trans (hb.out.mono (by omega))).mono hB
            have hld := load_state (hc.below hbw hbB)
            have hst := Lib.hid (swts_step ht hqq)
            have HC := Lib.hid (HS.out B N t il' al' lv' q' wr tf (hi'.below hbw) (ha'.below hbw) (hl'.below hbw) (by have := hb.out.size; omega) hqq)
            clear hel hc hi' ha' hl' ht tf hbw
            have hq0 : (q' : Int) ≤ 10000 := by omega
            go_wp2_with (go_at_call 49; refine HC.out.mono ?_; rintro r w4 ⟨rfl, hb4⟩)
            go_roundw
            case rel => exact ⟨j + 1, _, rfl, by go_num, by omega, by rw [← hst.out]; exact HQ.out, hb.out.trans (hb4.mono hb.out.size)⟩
            case measure => simp [intOf]; omega
          · have hqq' : ¬ ((q' : Int) ≤ 10000) := by omega
            go_wp2
            go_ret
            exact ⟨ret_int (hE.out q' (.inr (by omega))), HB3.out.trans (hb.out.mono (by omega))⟩
        · have hlt' : ¬ ((j : Int) < (m : Int)) := by omega
          go_wp2
          all_goals
            go_ret
            exact ⟨ret_int (hE.out q' (.inl hlt)), HB3.out.trans (hb.out.mono (by omega))⟩
    | false =>
      have HQ0 : Hid (swts (s.inner.drop 0) (q + 1) = swt s q) := by
        have h := HSW.out
        rw [if_neg (by decide), Nat.add_zero] at h
        show swts (s.inner.drop 0) _ = _
        rw [List.drop_zero, h]
      clear HSW
      have hq1 : IntKind.i64.wrap ((q : Int) + 1) = q + 1 := by rw [IntKind.wrap_i64]; omega
      go_wp2
      go_loopw [1, 6] (fun v i wr => ∃ (j q' : Nat), v = .int .i64 q' ∧ i = .int .i64 j ∧ j ≤ m ∧ Hid (swts (s.inner.drop j) q' = swt s q) ∧ Hid (Below w3.heap.size w3 wr)) (fun _ i _ => m - (intOf i).toNat)
      case atStart => exact ⟨0, q + 1, by simp, rfl, Nat.zero_le _, HQ0, Below.refl _ _⟩
      case round =>
        obtain ⟨j, q', rfl, rfl, hj, HQ, hb⟩ := hrel
        have d18 := load_slice (HK.out wr (hb.out.mono hz3))
        have hend : ∀ (q0 : Nat), ¬ j < m ∨ 10000 < q' → (q' : Int) = (swt s q : Nat) := fun _ h => by
          have := HQ.out
          rcases h with h | h
          · obtain rfl : j = m := by omega
            rw [← Hm.out, swts_end] at this; omega
          · rw [swts_big _ h] at this; omega
        have hE := Lib.hid hend; clear hend
        by_cases hlt : j < m
        · have hlt' : (j : Int) < (m : Int) := by omega
          by_cases hqq : q' ≤ 10000
          · rcases HL.out with ⟨h0, _⟩ | ⟨b, off, c', hp, hbB, _, hel⟩
            · rw [← Hm.out, h0] at hlt; exact absurd hlt (by simp)
            rw [Hm.out] at hp
            cases hp
            obtain ⟨t, ht⟩ : ∃ t, s.inner[j]? = some t := ⟨_, List.getElem?_eq_getElem (by rw [Hm.out]; exact hlt)⟩
            obtain ⟨tf, il', al', lv', hc, hi', ha', hl'⟩ := hel j t ht
            have hbw : Below B w wr := (HB3.out.trans (hb.out.mono (by omega))).mono hB
            have hld := load_state (hc.below hbw hbB)
            have hst := Lib.hid (swts_step ht hqq)
            have HC := Lib.hid (HS.out B N t il' al' lv' q' wr tf (hi'.below hbw) (ha'.below hbw) (hl'.below hbw) (by have := hb.out.size; omega) hqq)
            clear hel hc hi' ha' hl' ht tf hbw
            have hq0 : (q' : Int) ≤ 10000 := by omega
            go_wp2_with (go_at_call 49; refine HC.out.mono ?_; rintro r w4 ⟨rfl, hb4⟩)
            go_roundw
            case rel => exact ⟨j + 1, _, rfl, by go_num, by omega, by rw [← hst.out]; exact HQ.out, hb.out.trans (hb4.mono hb.out.size)⟩
            case measure => simp [intOf]; omega
          · have hqq' : ¬ ((q' : Int) ≤ 10000) := by omega
            go_wp2
            go_ret
            exact ⟨ret_int (hE.out q' (.inr (by omega))), HB3.out.trans (hb.out.mono (by omega))⟩
        · have hlt' : ¬ ((j : Int) < (m : Int)) := by omega
          go_wp2
          all_goals
            go_ret
            exact ⟨ret_int (hE.out q' (.inl hlt)), HB3.out.trans (hb.out.mono (by omega))⟩
end Go.Proofs.YtckggmcjcdkfhaaGreatDoor.Va
