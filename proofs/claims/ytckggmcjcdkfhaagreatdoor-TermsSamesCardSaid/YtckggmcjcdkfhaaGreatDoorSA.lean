/-
  terms.Same, slices.EqualFunc of states: when two states are the same. No condition but that they lie so.
-/
import Derived.Test.YtckggmcjcdkfhaaGreatDoorS9
namespace Go.Proofs.YtckggmcjcdkfhaaGreatDoor.Va
open Go Go.RowKit Go.Proofs.Nu
attribute [-go_sem] Go.Instr.loadAt Go.Instr.storeAt

abbrev sameFn : Value := .func (.func 12) #[] #[]
def PsS (n : Nat) : Prop := ∀ (B N : Nat) (ss ss' : List ST) (lv lv' : Value) (w : World), SAt B N w n lv ss → SAt B N w n lv' ss' → B ≤ w.heap.size →
    Calls Tryz.prog 52 #[lv, lv', sameFn] w fun e w' => e = .returned (.bool (eqSs ss ss')) ∧ Below w.heap.size w w'
/-- Two boxed states. -/
structure SBox2 (w W1 : World) (s : ST) (il al lv : Value) (t : ST) (il' al' lv' : Value) : Prop where
  size : W1.heap.size = w.heap.size + 2
  below : Below w.heap.size w W1
  c1 : Cells W1 w.heap.size 0 (s.cells il al lv)
  c2 : Cells W1 (w.heap.size + 1) 0 (t.cells il' al' lv')
theorem sbox2 {w W1 : World} {s : ST} {il al lv : Value} {t : ST} {il' al' lv' : Value} (hW1 : (w.alloc (.cells #[.int .i64 s.kind, .int .i64 s.section_, .int .i64 s.offset, .string s.cond, .string s.text, .int .i64 s.info.kind, .int .u64 s.info.num, .string s.info.text, il, .int .i64 s.info.elem, .bool s.failed, .bool s.elsewhere, .int .i64 s.ann.kind, .int .u64 s.ann.num, .string s.ann.text, al, .int .i64 s.ann.elem, .string s.txn, lv] 30)).alloc (.cells #[.int .i64 t.kind, .int .i64 t.section_, .int .i64 t.offset, .string t.cond, .string t.text, .int .i64 t.info.kind, .int .u64 t.info.num, .string t.info.text, il', .int .i64 t.info.elem, .bool t.failed, .bool t.elsewhere, .int .i64 t.ann.kind, .int .u64 t.ann.num, .string t.ann.text, al', .int .i64 t.ann.elem, .string t.txn, lv'] 30) = W1) : SBox2 w W1 s il al lv t il' al' lv' := by
  obtain ⟨k1, k2, _, _, kb1, _⟩ := two_cells (w := w) (w2 := W1) (cs := s.cells il al lv) (ds := t.cells il' al' lv') (T := 30) (by rw [← hW1]; exact Below.refl _ _)
  exact ⟨by rw [← hW1, heap_alloc_size, heap_alloc_size], kb1, k1, k2⟩
theorem load_sann {w : World} {b : Nat} {s : ST} {il al lv : Value} (h : Cells w b 0 (s.cells il al lv)) : (Instr.loadAt 25 (.pointer (some ⟨b, 12, none⟩))).run Tryz.prog w = .ok (.agg #[.int .i64 s.ann.kind, .int .u64 s.ann.num, .string s.ann.text, al, .int .i64 s.ann.elem]) w := load_value (o := 12) (cells_ann (s := s) h)
theorem eqS_parts (s t : ST) : eqS s t = ((s.kind == t.kind) && (s.section_ == t.section_) && (s.offset == t.offset) && eqF s.cond s.text s.info t.cond t.text t.info && (s.failed == t.failed) && (s.elsewhere == t.elsewhere) && eqT s.ann t.ann && (s.txn.toList == t.txn.toList) && eqSs s.inner t.inner) := eqS_mk s t

set_option maxRecDepth 100000 in
set_option maxHeartbeats 4000000 in
theorem psame_of {n : Nat} (hS : PsS n) (B N : Nat) (s : ST) (il al lv : Value) (t : ST) (il' al' lv' : Value) (w : World) (hf : s.Fine) (hf' : t.Fine) (hil : LAt B w N il s.info.list) (hal : LAt B w N al s.ann.list) (hlv : SAt B N w n lv s.inner) (hil' : LAt B w N il' t.info.list) (hal' : LAt B w N al' t.ann.list) (hlv' : SAt B N w n lv' t.inner) (hB : B ≤ w.heap.size) :
    Calls Tryz.prog 12 #[s.agg il al lv, t.agg il' al' lv'] w fun r w' => r = .returned (.bool (eqS s t)) ∧ Below w.heap.size w w' := by
  obtain ⟨W1, hW1⟩ : ∃ W1, (w.alloc (.cells #[.int .i64 s.kind, .int .i64 s.section_, .int .i64 s.offset, .string s.cond, .string s.text, .int .i64 s.info.kind, .int .u64 s.info.num, .string s.info.text, il, .int .i64 s.info.elem, .bool s.failed, .bool s.elsewhere, .int .i64 s.ann.kind, .int .u64 s.ann.num, .string s.ann.text, al, .int .i64 s.ann.elem, .string s.txn, lv] 30)).alloc (.cells #[.int .i64 t.kind, .int .i64 t.section_, .int .i64 t.offset, .string t.cond, .string t.text, .int .i64 t.info.kind, .int .u64 t.info.num, .string t.info.text, il', .int .i64 t.info.elem, .bool t.failed, .bool t.elsewhere, .int .i64 t.ann.kind, .int .u64 t.ann.num, .string t.ann.text, al', .int .i64 t.ann.elem, .string t.txn, lv'] 30) = W1 := ⟨_, rfl⟩
  have hb := sbox2 hW1
  have hz1 := hb.size
  have hbB : Below B w W1 := hb.below.mono hB
  have HB1 := Lib.hid hb.below
  have HK : Hid (∀ w2, Below W1.heap.size W1 w2 → Cells w2 w.heap.size 0 (s.cells il al lv) ∧ Cells w2 (w.heap.size + 1) 0 (t.cells il' al' lv') ∧ Below w.heap.size w w2) := fun w2 h => ⟨hb.c1.below h (by omega), hb.c2.below h (by omega), hb.below.trans (h.mono (by omega))⟩
  have HF := Lib.hid (psameF s.cond s.text s.info il t.cond t.text t.info il' W1 hf.i hf'.i (hil.below hbB) (hil'.below hbB) (by omega))
  have HA : Hid (∀ w2, Below W1.heap.size W1 w2 → Calls Tryz.prog 51 #[.agg #[.int .i64 s.ann.kind, .int .u64 s.ann.num, .string s.ann.text, al, .int .i64 s.ann.elem], .agg #[.int .i64 t.ann.kind, .int .u64 t.ann.num, .string t.ann.text, al', .int .i64 t.ann.elem]] w2 fun r w' => r = .returned (.bool (eqT s.ann t.ann)) ∧ Below w2.heap.size w2 w') := fun w2 h => (pequal_any (N := N) (B := B) (w := w2) ⟨hf.a, al, rfl, (hal.below hbB).below (h.mono (by omega))⟩ ⟨hf'.a, al', rfl, (hal'.below hbB).below (h.mono (by omega))⟩ (by have := h.size; omega)).mono fun r w' ⟨x, y⟩ => ⟨x, y.below⟩
  have HI : Hid (∀ w2, Below W1.heap.size W1 w2 → Calls Tryz.prog 52 #[lv, lv', sameFn] w2 fun e w' => e = .returned (.bool (eqSs s.inner t.inner)) ∧ Below w2.heap.size w2 w') := fun w2 h => hS B N s.inner t.inner lv lv' w2 ((hlv.below hbB).below (h.mono (by omega))) ((hlv'.below hbB).below (h.mono (by omega))) (by have := h.size; omega)
  have l1 := load_int (cell_of hb.c1 0 _ rfl)
  have l2 := load_int (cell_of hb.c1 1 _ rfl)
  have l3 := load_int (cell_of hb.c1 2 _ rfl)
  have l4 := load_fault (o := 3) (cells_fault (s := s) hb.c1)
  have l1' := load_int (cell_of hb.c2 0 _ rfl)
  have l2' := load_int (cell_of hb.c2 1 _ rfl)
  have l3' := load_int (cell_of hb.c2 2 _ rfl)
  have l4' := load_fault (o := 3) (cells_fault (s := t) hb.c2)
  clear hb hbB hf hf' hil hal hlv hil' hal' hlv' hS
  have HE := Lib.hid (eqS_parts s t)
  obtain ⟨R, hR⟩ : ∃ R, eqS s t = R := ⟨_, rfl⟩
  rw [hR] at HE ⊢
  clear hR
  obtain ⟨X, hX⟩ : ∃ X, eqF s.cond s.text s.info t.cond t.text t.info = X := ⟨_, rfl⟩
  obtain ⟨Y, hY⟩ : ∃ X, eqT s.ann t.ann = X := ⟨_, rfl⟩
  obtain ⟨Z, hZ⟩ : ∃ X, eqSs s.inner t.inner = X := ⟨_, rfl⟩
  rw [hX, hY, hZ] at HE
  rw [hX] at HF
  rw [hY] at HA
  rw [hZ] at HI
  clear hX hY hZ
  by_cases h1 : s.kind = t.kind ∧ s.section_ = t.section_ ∧ s.offset = t.offset
  · obtain ⟨h11, h12, h13⟩ := h1
    have HE1 : Hid (R = (X && (s.failed == t.failed) && (s.elsewhere == t.elsewhere) && Y && (s.txn.toList == t.txn.toList) && Z)) := by show R = _; rw [HE.out, h11, h12, h13]; simp
    have e11 : (s.kind == t.kind) = true := by simp [h11]
    have e12 : (s.section_ == t.section_) = true := by simp [h12]
    have e13 : (s.offset == t.offset) = true := by simp [h13]
    clear HE h11 h12 h13
    go_enter Tryz.func12, Tryz.ntmps12
    go_wp2_with (fail)
    clear hW1 l1 l2 l3 l4 l1' l2' l3' l4' e11 e12 e13
    refine HF.out.mono ?_
    rintro r w2 ⟨rfl, hb2⟩
    have B2 := Lib.hid hb2
    obtain ⟨c1, c2, hbw⟩ := HK.out w2 hb2
    have BW := Lib.hid hbw
    clear hb2 hbw
    cases X with
    | false =>
      go_wp2
      go_ret
      exact ⟨ret_bool (by rw [HE1.out]; simp), BW.out⟩
    | true =>
      have l1 := load_bool (cell_of c1 10 _ rfl)
      have l2 := load_bool (cell_of c1 11 _ rfl)
      have l3 := load_sann c1
      have l1' := load_bool (cell_of c2 10 _ rfl)
      have l2' := load_bool (cell_of c2 11 _ rfl)
      have l3' := load_sann c2
      clear c1 c2
      by_cases h2 : s.failed = t.failed ∧ s.elsewhere = t.elsewhere
      · obtain ⟨h21, h22⟩ := h2
        have HE2 : Hid (R = (Y && (s.txn.toList == t.txn.toList) && Z)) := by show R = _; rw [HE1.out, h21, h22]; simp
        have e21 : (s.failed == t.failed) = true := by simp [h21]
        have e22 : (s.elsewhere == t.elsewhere) = true := by simp [h22]
        clear HE1 h21 h22
        go_wp2_with (fail)
        clear l1 l2 l3 l1' l2' l3' e21 e22
        refine (HA.out w2 B2.out).mono ?_
        rintro r w3 ⟨rfl, hb3⟩
        have B3 := Lib.hid (B2.out.trans (hb3.mono B2.out.size))
        obtain ⟨c1, c2, hbw⟩ := HK.out w3 B3.out
        have BW3 := Lib.hid hbw
        clear hb3 hbw
        cases Y with
        | false =>
          go_wp2
          go_ret
          exact ⟨ret_bool (by rw [HE2.out]; simp), BW3.out⟩
        | true =>
          have l1 := load_str (cell_of c1 17 _ rfl)
          have l2 := load_slice (cell_of c1 18 _ rfl)
          have l1' := load_str (cell_of c2 17 _ rfl)
          have l2' := load_slice (cell_of c2 18 _ rfl)
          clear c1 c2
          by_cases h3 : s.txn = t.txn
          · have HE3 : Hid (R = Z) := by show R = _; rw [HE2.out, h3]; simp
            have e3 : (s.txn.toList == t.txn.toList) = true := by simp [h3]
            clear HE2 h3
            go_wp2_with (fail)
            clear l1 l2 l1' l2' e3
            refine (HI.out w3 B3.out).mono ?_
            rintro r w4 ⟨rfl, hb4⟩
            have BW4 := Lib.hid (BW3.out.trans (hb4.mono BW3.out.size))
            clear hb4
            go_wp2
            go_ret
            exact ⟨ret_bool HE3.out.symm, BW4.out⟩
          · have h3' : ¬ s.txn.toList = t.txn.toList := fun h => h3 (toList_inj h)
            have HE3 : Hid (R = false) := by show R = _; rw [HE2.out]; simp [h3']
            clear HE2
            go_wp2_with (go_at_call 52; exfalso; exact h3' (by assumption))
            go_ret
            exact ⟨ret_bool HE3.out.symm, BW3.out⟩
      · have HE2 : Hid (R = false) := by
          show R = false
          rw [HE1.out]
          by_cases h21 : s.failed = t.failed
          · by_cases h22 : s.elsewhere = t.elsewhere
            · exact absurd ⟨h21, h22⟩ h2
            · simp [h22]
          · simp [h21]
        have H2 := Lib.hid h2
        clear HE1 h2
        go_wp2_with (go_at_call 51; exfalso; have := H2.out; simp_all)
        all_goals
          go_ret
          exact ⟨ret_bool HE2.out.symm, BW.out⟩
  · have HE2 : Hid (R = false) := by
      show R = false
      rw [HE.out]
      by_cases h11 : s.kind = t.kind
      · by_cases h12 : s.section_ = t.section_
        · by_cases h13 : s.offset = t.offset
          · exact absurd ⟨h11, h12, h13⟩ h1
          · simp [h13]
        · simp [h12]
      · simp [h11]
    have H1 := Lib.hid h1
    clear HE h1
    go_enter Tryz.func12, Tryz.ntmps12
    go_wp2_with (go_at_call 50; exfalso; exact H1.out ⟨by assumption, by assumption, by assumption⟩)
    all_goals
      go_ret
      exact ⟨ret_bool HE2.out.symm, HB1.out⟩
end Go.Proofs.YtckggmcjcdkfhaaGreatDoor.Va
