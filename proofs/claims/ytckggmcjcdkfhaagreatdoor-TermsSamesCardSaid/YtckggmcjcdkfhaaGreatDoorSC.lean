/-
  The reference's Same: when two states are the same. No condition but that they lie so.
-/
import Derived.Test.YtckggmcjcdkfhaaGreatDoorSB
import Derived.Deep.RegionHeld3
import Derived.Deep.DrawnRows
namespace Go.Proofs.YtckggmcjcdkfhaaGreatDoor.Va
open Go Go.RowKit Go.Proofs.Nu
attribute [-go_sem] Go.Instr.loadAt Go.Instr.storeAt
attribute [local go_sem ↓] Go.wp_at_zero Go.wp_at_succ

def RsS (n : Nat) : Prop := ∀ (B N : Nat) (s : ST) (il al lv : Value) (t : ST) (il' al' lv' : Value) (w : World), s.Fine → t.Fine → LAt B w N il s.info.list → LAt B w N al s.ann.list → SAt B N w n lv s.inner → LAt B w N il' t.info.list → LAt B w N al' t.ann.list → SAt B N w n lv' t.inner → B ≤ w.heap.size →
    Calls Tryz.prog 15 #[s.agg il al lv, t.agg il' al' lv'] w fun r w' => r = .returned (.bool (eqS s t)) ∧ Below w.heap.size w w'
set_option maxRecDepth 100000 in
set_option maxHeartbeats 4000000 in
theorem rsames : ∀ n, RsS n := by
  intro n
  induction n with
  | zero => intro B N s il al lv t il' al' lv' w _ _ _ _ h; exact h.elim
  | succ n ih =>
    intro B N s il al lv t il' al' lv' w hf hf' hil hal hlv hil' hal' hlv' hB
    have HS := Lib.hid ih
    have HL := Lib.hid hlv
    have HL' := Lib.hid hlv'
    obtain ⟨p, c, rfl⟩ := hlv.slice
    obtain ⟨p', c', rfl⟩ := hlv'.slice
    have hlen : s.inner.length ≤ 9223372036854775807 := hlv.len
    have hlen' : t.inner.length ≤ 9223372036854775807 := hlv'.len
    obtain ⟨W1, hW1⟩ : ∃ W1, (w.alloc (.cells #[.int .i64 s.kind, .int .i64 s.section_, .int .i64 s.offset, .string s.cond, .string s.text, .int .i64 s.info.kind, .int .u64 s.info.num, .string s.info.text, il, .int .i64 s.info.elem, .bool s.failed, .bool s.elsewhere, .int .i64 s.ann.kind, .int .u64 s.ann.num, .string s.ann.text, al, .int .i64 s.ann.elem, .string s.txn, .slice p s.inner.length c] 30)).alloc (.cells #[.int .i64 t.kind, .int .i64 t.section_, .int .i64 t.offset, .string t.cond, .string t.text, .int .i64 t.info.kind, .int .u64 t.info.num, .string t.info.text, il', .int .i64 t.info.elem, .bool t.failed, .bool t.elsewhere, .int .i64 t.ann.kind, .int .u64 t.ann.num, .string t.ann.text, al', .int .i64 t.ann.elem, .string t.txn, .slice p' t.inner.length c'] 30) = W1 := ⟨_, rfl⟩
    have hb := sbox2 hW1
    have hz1 := hb.size
    have hbB : Below B w W1 := hb.below.mono hB
    have HK : Hid (∀ w2, Below W1.heap.size W1 w2 → Cells w2 w.heap.size 0 (s.cells il al (.slice p s.inner.length c)) ∧ Cells w2 (w.heap.size + 1) 0 (t.cells il' al' (.slice p' t.inner.length c')) ∧ Below w.heap.size w w2) := fun w2 h => ⟨hb.c1.below h (by omega), hb.c2.below h (by omega), hb.below.trans (h.mono (by omega))⟩
    have HF := Lib.hid (rsameF s.cond s.text s.info il t.cond t.text t.info il' W1 hf.i hf'.i (hil.below hbB) (hil'.below hbB) (by omega))
    have HA : Hid (∀ w2, Below W1.heap.size W1 w2 → Calls Tryz.prog 23 #[.agg #[.int .i64 s.ann.kind, .int .u64 s.ann.num, .string s.ann.text, al, .int .i64 s.ann.elem], .agg #[.int .i64 t.ann.kind, .int .u64 t.ann.num, .string t.ann.text, al', .int .i64 t.ann.elem]] w2 fun r w' => r = .returned (.bool (eqT s.ann t.ann)) ∧ Below w2.heap.size w2 w') := fun w2 h => equal_any (N := N) (B := B) (w := w2) ⟨hf.a, al, rfl, (hal.below hbB).below (h.mono (by omega))⟩ ⟨hf'.a, al', rfl, (hal'.below hbB).below (h.mono (by omega))⟩ (by have := h.size; omega)
    have l4 := load_fault (o := 3) (cells_fault (s := s) hb.c1)
    have l4' := load_fault (o := 3) (cells_fault (s := t) hb.c2)
    clear hb hbB hf hf' hil hal hlv hil' hal' hlv' ih
    have HE := Lib.hid (eqS_parts s t)
    obtain ⟨R, hR⟩ : ∃ R, eqS s t = R := ⟨_, rfl⟩
    rw [hR] at HE ⊢
    clear hR
    obtain ⟨X, hX⟩ : ∃ X, eqF s.cond s.text s.info t.cond t.text t.info = X := ⟨_, rfl⟩
    obtain ⟨Y, hY⟩ : ∃ X, eqT s.ann t.ann = X := ⟨_, rfl⟩
    rw [hX, hY] at HE
    rw [hX] at HF
    rw [hY] at HA
    clear hX hY
    go_enter Tryz.func15, Tryz.ntmps15
    go_wp2_with (fail)
    clear hW1 l4 l4'
    refine HF.out.mono ?_
    rintro r w2 ⟨rfl, hb2⟩
    obtain ⟨c1, c2, hbw⟩ := HK.out w2 hb2
    have B2 := Lib.hid hb2
    have l1 := load_sann c1
    have l2 := load_sann c2
    clear hb2 hbw c1 c2
    go_wp2_with (fail)
    clear l1 l2
    refine (HA.out w2 B2.out).mono ?_
    rintro r w3 ⟨rfl, hb3⟩
    have B3 := Lib.hid (B2.out.trans (hb3.mono B2.out.size))
    obtain ⟨c1, c2, hbw⟩ := HK.out w3 B3.out
    have BW3 := Lib.hid hbw
    have hz3 : w.heap.size + 2 ≤ w3.heap.size := by have := B3.out.size; omega
    have q0 := load_int (cell_of c1 0 _ rfl)
    have q1 := load_int (cell_of c1 1 _ rfl)
    have q2 := load_int (cell_of c1 2 _ rfl)
    have q3 := load_bool (cell_of c1 10 _ rfl)
    have q4 := load_bool (cell_of c1 11 _ rfl)
    have q5 := load_str (cell_of c1 17 _ rfl)
    have q6 := load_slice (cell_of c1 18 _ rfl)
    have r0 := load_int (cell_of c2 0 _ rfl)
    have r1 := load_int (cell_of c2 1 _ rfl)
    have r2 := load_int (cell_of c2 2 _ rfl)
    have r3 := load_bool (cell_of c2 10 _ rfl)
    have r4 := load_bool (cell_of c2 11 _ rfl)
    have r5 := load_str (cell_of c2 17 _ rfl)
    have r6 := load_slice (cell_of c2 18 _ rfl)
    have Q6 := Lib.hid (cell_of c1 18 _ rfl)
    have R6 := Lib.hid (cell_of c2 18 _ rfl)
    clear hb3 hbw c1 c2 HF HA HK B2
    cases X with
    | false =>
      go_wp2
      go_ret
      exact ⟨ret_bool (by rw [HE.out]; simp), BW3.out⟩
    | true =>
    cases Y with
    | false =>
      go_wp2
      go_ret
      exact ⟨ret_bool (by rw [HE.out]; simp), BW3.out⟩
    | true =>
    by_cases h : s.kind = t.kind
    rotate_left
    · have e : (s.kind != t.kind) = true := by simp [h]
      have HF : Hid (R = false) := by show R = _; rw [HE.out]; simp [h]
      go_wp2
      go_ret
      exact ⟨ret_bool HF.out.symm, BW3.out⟩
    have h1 := h
    have e1 : (s.kind != t.kind) = false := by simp [h]
    clear h
    have H1 := Lib.hid h1
    clear h1
    by_cases h : s.section_ = t.section_
    rotate_left
    · have e : (s.section_ != t.section_) = true := by simp [h]
      have HF : Hid (R = false) := by show R = _; rw [HE.out]; simp [h]
      go_wp2
      go_ret
      exact ⟨ret_bool HF.out.symm, BW3.out⟩
    have h2 := h
    have e2 : (s.section_ != t.section_) = false := by simp [h]
    clear h
    have H2 := Lib.hid h2
    clear h2
    by_cases h : s.offset = t.offset
    rotate_left
    · have e : (s.offset != t.offset) = true := by simp [h]
      have HF : Hid (R = false) := by show R = _; rw [HE.out]; simp [h]
      go_wp2
      go_ret
      exact ⟨ret_bool HF.out.symm, BW3.out⟩
    have h3 := h
    have e3 : (s.offset != t.offset) = false := by simp [h]
    clear h
    have H3 := Lib.hid h3
    clear h3
    by_cases h : s.failed = t.failed
    rotate_left
    · have e : (s.failed != t.failed) = true := by simp [h]
      have HF : Hid (R = false) := by show R = _; rw [HE.out]; simp [h]
      go_wp2
      go_ret
      exact ⟨ret_bool HF.out.symm, BW3.out⟩
    have h4 := h
    have e4 : (s.failed != t.failed) = false := by simp [h]
    clear h
    have H4 := Lib.hid h4
    clear h4
    by_cases h : s.elsewhere = t.elsewhere
    rotate_left
    · have e : (s.elsewhere != t.elsewhere) = true := by simp [h]
      have HF : Hid (R = false) := by show R = _; rw [HE.out]; simp [h]
      go_wp2
      go_ret
      exact ⟨ret_bool HF.out.symm, BW3.out⟩
    have h5 := h
    have e5 : (s.elsewhere != t.elsewhere) = false := by simp [h]
    clear h
    have H5 := Lib.hid h5
    clear h5
    by_cases h : s.txn = t.txn
    rotate_left
    · have h' : ¬ s.txn.toList = t.txn.toList := fun hh => h (toList_inj hh)
      have e : (s.txn.toList != t.txn.toList) = true := by simp [h']
      have e' : (s.txn.toList == t.txn.toList) = false := by simp [h']
      have HF : Hid (R = false) := by show R = _; rw [HE.out]; simp [h']
      clear h h'
      go_wp2
      go_ret
      exact ⟨ret_bool HF.out.symm, BW3.out⟩
    have e6 : (s.txn.toList != t.txn.toList) = false := by simp [h]
    have e7 : (s.txn.toList == t.txn.toList) = true := by simp [h]
    have H6 := Lib.hid h
    clear h
    by_cases hll : s.inner.length = t.inner.length
    rotate_left
    · have hb : ((s.inner.length : Int) != (t.inner.length : Int)) = true := by simp; omega
      have HF : Hid (R = false) := by show R = _; rw [HE.out, eqSs_len hll]; simp
      clear hll
      go_wp2
      go_ret
      exact ⟨ret_bool HF.out.symm, BW3.out⟩
    have HE2 : Hid (eqSs s.inner t.inner = R) := by show _ = R; rw [HE.out, H1.out, H2.out, H3.out, H4.out, H5.out, H6.out]; simp
    clear HE H1 H2 H3 H6
    obtain ⟨m, hm⟩ : ∃ m, s.inner.length = m := ⟨_, rfl⟩
    have hm' : t.inner.length = m := by omega
    have Hm := Lib.hid hm
    have Hm' := Lib.hid hm'
    rw [hm] at hlen HL q6 Q6 hll ⊢
    rw [hm'] at HL' r6 R6 hll ⊢
    clear hm hm' hll hlen'
    go_wp2
    all_goals try (exfalso; first | exact (by assumption : ¬ s.elsewhere = t.elsewhere) H5.out | exact (by assumption : ¬ s.failed = t.failed) H4.out)
    clear q0 q1 q2 q3 q4 q5 q6 r0 r1 r2 r3 r4 r5 r6 e1 e2 e3 e4 e5 e6 e7
    go_loopw [7, 8] (fun i x wr => ∃ (j : Nat), i = .int .i64 j ∧ j ≤ m ∧ Hid (eqSs (s.inner.drop j) (t.inner.drop j) = R) ∧ Hid (Below w3.heap.size w3 wr)) (fun i _ _ => m - (intOf i).toNat)
    case atStart => exact ⟨0, rfl, Nat.zero_le _, HE2, Below.refl _ _⟩
    case round =>
      obtain ⟨j, rfl, hj, HQ, HG⟩ := hrel
      have hbw3 : Below w.heap.size w wr := BW3.out.trans (HG.out.mono (by omega))
      have hsz := HG.out.size
      have d1 : wr.cell? ⟨w.heap.size, 18, none⟩ = some (.slice p m c) := (HG.out.cell (p := ⟨w.heap.size, 18, none⟩) (by show w.heap.size < _; omega)).trans Q6.out
      have d2 : wr.cell? ⟨w.heap.size + 1, 18, none⟩ = some (.slice p' m c') := (HG.out.cell (p := ⟨w.heap.size + 1, 18, none⟩) (by show w.heap.size + 1 < _; omega)).trans R6.out
      have l1 := load_slice d1
      by_cases hlt : j < m
      · rcases HL.out with ⟨h0, _⟩ | ⟨b, off, c0, hp, hbB, _, hel⟩
        · exfalso; have := Hm.out; rw [h0] at this; simp at this; omega
        rcases HL'.out with ⟨h0, _⟩ | ⟨b', off', c0', hp', hbB', _, hel'⟩
        · exfalso; have := Hm'.out; rw [h0] at this; simp at this; omega
        rw [Hm.out] at hp
        rw [Hm'.out] at hp'
        cases hp
        cases hp'
        obtain ⟨u, hu⟩ : ∃ z, s.inner[j]? = some z := ⟨_, List.getElem?_eq_getElem (by rw [Hm.out]; exact hlt)⟩
        obtain ⟨u', hu'⟩ : ∃ z, t.inner[j]? = some z := ⟨_, List.getElem?_eq_getElem (by rw [Hm'.out]; exact hlt)⟩
        obtain ⟨tf, il, al, lv, hc, hi, ha, hl⟩ := hel j u hu
        obtain ⟨tf', il', al', lv', hc', hi', ha', hl'⟩ := hel' j u' hu'
        have hbw : Below B w wr := hbw3.mono hB
        have hst := Lib.hid (eqSs_step hu hu')
        have hi0 : (0 : Int) ≤ (j : Int) := by omega
        have hi1 : (j : Int) < (m : Int) := by omega
        have hbs : b < wr.heap.size := by have := hbw3.size; omega
        have hbs' : b' < wr.heap.size := by have := hbw3.size; omega
        have hws : w.heap.size + 1 < wr.heap.size := by omega
        obtain ⟨X, hX⟩ : ∃ X, eqS u u' = X := ⟨_, rfl⟩
        rw [hX] at hst
        have HC : Hid (∀ w', Below wr.heap.size wr w' → Calls Tryz.prog 15 #[u.agg il al lv, u'.agg il' al' lv'] w' fun r w'' => r = .returned (.bool X) ∧ Below wr.heap.size w' w'') := fun w' h => by
          have hb : Below B w w' := hbw.trans (h.mono (by have := hbw3.size; omega))
          have := HS.out B N u il al lv u' il' al' lv' w' tf tf' (hi.below hb) (ha.below hb) (hl.below hb) (hi'.below hb) (ha'.below hb) (hl'.below hb) (by have := h.size; have := hbw3.size; omega)
          rw [hX] at this
          exact this.mono fun r w'' ⟨x, y⟩ => ⟨x, y.mono h.size⟩
        have HALL : Hid (∀ w', Below wr.heap.size wr w' → (Below wr.heap.size wr w' ∧ (Instr.loadAt 30 (.pointer (some ⟨b, off + j * 19, none⟩))).run Tryz.prog w' = .ok (u.agg il al lv) w' ∧ (Instr.loadAt 30 (.pointer (some ⟨b', off' + j * 19, none⟩))).run Tryz.prog w' = .ok (u'.agg il' al' lv') w' ∧ (Instr.loadAt 28 (.pointer (some ⟨w.heap.size, 18, none⟩))).run Tryz.prog w' = .ok (.slice (some ⟨b, off, none⟩) m c) w' ∧ (Instr.loadAt 28 (.pointer (some ⟨w.heap.size + 1, 18, none⟩))).run Tryz.prog w' = .ok (.slice (some ⟨b', off', none⟩) m c') w')) := fun w' h =>
          ⟨h, load_state ((hc.below hbw hbB).below h hbs), load_state ((hc'.below hbw hbB').below h hbs'), load_slice ((h.cell (p := ⟨w.heap.size, 18, none⟩) (by show w.heap.size < _; omega)).trans d1), load_slice ((h.cell (p := ⟨w.heap.size + 1, 18, none⟩) (by show w.heap.size + 1 < _; omega)).trans d2)⟩
        clear hel hel' hc hc' hi ha hl hi' ha' hl' hu hu' tf tf' hX hbw
        go_wp2
        go_region_held3 (fun w' => Below wr.heap.size wr w' ∧ (Instr.loadAt 30 (.pointer (some ⟨b, off + j * 19, none⟩))).run Tryz.prog w' = .ok (u.agg il al lv) w' ∧ (Instr.loadAt 30 (.pointer (some ⟨b', off' + j * 19, none⟩))).run Tryz.prog w' = .ok (u'.agg il' al' lv') w' ∧ (Instr.loadAt 28 (.pointer (some ⟨w.heap.size, 18, none⟩))).run Tryz.prog w' = .ok (.slice (some ⟨b, off, none⟩) m c) w' ∧ (Instr.loadAt 28 (.pointer (some ⟨w.heap.size + 1, 18, none⟩))).run Tryz.prog w' = .ok (.slice (some ⟨b', off', none⟩) m c') w')
          (first
            | with_reducible exact HALL.out _ ((Below.refl _ _).drew.trans hb5.out)
            | with_reducible exact HALL.out _ (Below.refl _ _).drew)
          ((go_at_call 15; refine (HC.out _ (Below.refl _ _).drew).mono ?_; rintro r w4 ⟨rfl, hb5'⟩; have hb5 := Lib.hid hb5'; clear hb5'))
        have HG4 := Lib.hid (HG.out.trans (((Below.refl _ _).drew.trans hb5.out).mono hsz))
        clear HALL HC d1 d2 l1 hb5
        cases X with
        | false =>
          go_wp2
          go_ret
          exact ⟨ret_bool (by rw [← HQ.out, hst.out, Bool.false_and]), BW3.out.trans (HG4.out.mono (by omega))⟩
        | true =>
          go_wp2
          go_roundw
          case rel => exact ⟨j + 1, by go_num, by omega, by rw [← HQ.out, hst.out, Bool.true_and]; exact rfl, HG4.out⟩
          case measure => simp [intOf]; omega
      · obtain rfl : j = m := by omega
        go_wp2
        go_ret
        exact ⟨ret_bool (by rw [← HQ.out, ← Hm.out, eqSs_end (by rw [Hm.out, Hm'.out])]), hbw3⟩
theorem rsame_any {n B N : Nat} {s t : ST} {v v' : Value} {w : World} (h : SVAt B N w n v s) (h' : SVAt B N w n v' t) (hB : B ≤ w.heap.size) :
    Calls Tryz.prog 15 #[v, v'] w fun r w' => r = .returned (.bool (eqS s t)) ∧ Below w.heap.size w w' := by
  obtain ⟨hf, il, al, lv, rfl, h1, h2, h3⟩ := h
  obtain ⟨hf', il', al', lv', rfl, h1', h2', h3'⟩ := h'
  exact rsames n B N s il al lv t il' al' lv' w hf hf' h1 h2 h3 h1' h2' h3' hB
end Go.Proofs.YtckggmcjcdkfhaaGreatDoor.Va
