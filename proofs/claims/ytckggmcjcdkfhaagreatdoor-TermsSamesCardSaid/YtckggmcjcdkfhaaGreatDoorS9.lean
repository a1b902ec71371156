/-
  When two faults are the same, by the program and by the reference; Outcome by both. No condition but that the values lie so.
-/
import Derived.Test.YtckggmcjcdkfhaaGreatDoorS8
import Derived.Test.YtckggmcjcdkfhaaGreatDoorO3
namespace Go.Proofs.YtckggmcjcdkfhaaGreatDoor.Va
open Go Go.RowKit Go.Proofs.Nu
attribute [-go_sem] Go.Instr.loadAt

def eqF (x t : ByteArray) (i : VT) (x' t' : ByteArray) (i' : VT) : Bool := (x.toList == x'.toList) && (t.toList == t'.toList) && eqT i i'
/-- Two boxed faults. -/
structure FBox (w W1 : World) (x t : ByteArray) (i : VT) (il : Value) (x' t' : ByteArray) (i' : VT) (il' : Value) : Prop where
  size : W1.heap.size = w.heap.size + 2
  below : Below w.heap.size w W1
  c1 : Cells W1 w.heap.size 0 (fcells x t i il)
  c2 : Cells W1 (w.heap.size + 1) 0 (fcells x' t' i' il')
theorem fbox {w W1 : World} {x t : ByteArray} {i : VT} {il : Value} {x' t' : ByteArray} {i' : VT} {il' : Value} (hW1 : (w.alloc (.cells #[.string x, .string t, .int .i64 i.kind, .int .u64 i.num, .string i.text, il, .int .i64 i.elem] 27)).alloc (.cells #[.string x', .string t', .int .i64 i'.kind, .int .u64 i'.num, .string i'.text, il', .int .i64 i'.elem] 27) = W1) : FBox w W1 x t i il x' t' i' il' := by
  obtain ⟨k1, k2, _, _, kb1, _⟩ := two_cells (w := w) (w2 := W1) (cs := fcells x t i il) (ds := fcells x' t' i' il') (T := 27) (by rw [← hW1]; exact Below.refl _ _)
  exact ⟨by rw [← hW1, heap_alloc_size, heap_alloc_size], kb1, k1, k2⟩
theorem load_fv {w : World} {b : Nat} {x t : ByteArray} {i : VT} {il : Value} (h : Cells w b 0 (fcells x t i il)) : (Instr.loadAt 25 (.pointer (some ⟨b, 2, none⟩))).run Tryz.prog w = .ok (.agg #[.int .i64 i.kind, .int .u64 i.num, .string i.text, il, .int .i64 i.elem]) w := load_value (o := 2) (cells_right (cs := [.string x, .string t]) h)

set_option maxRecDepth 100000 in
set_option maxHeartbeats 1000000 in
theorem psameF {N B : Nat} (x t : ByteArray) (i : VT) (il : Value) (x' t' : ByteArray) (i' : VT) (il' : Value) (w : World) (fi : i.Fine) (fi' : i'.Fine) (hl : LAt B w N il i.list) (hl' : LAt B w N il' i'.list) (hB : B ≤ w.heap.size) :
    Calls Tryz.prog 50 #[.agg #[.string x, .string t, .int .i64 i.kind, .int .u64 i.num, .string i.text, il, .int .i64 i.elem], .agg #[.string x', .string t', .int .i64 i'.kind, .int .u64 i'.num, .string i'.text, il', .int .i64 i'.elem]] w fun r w' => r = .returned (.bool (eqF x t i x' t' i')) ∧ Below w.heap.size w w' := by
  obtain ⟨W1, hW1⟩ : ∃ W1, (w.alloc (.cells #[.string x, .string t, .int .i64 i.kind, .int .u64 i.num, .string i.text, il, .int .i64 i.elem] 27)).alloc (.cells #[.string x', .string t', .int .i64 i'.kind, .int .u64 i'.num, .string i'.text, il', .int .i64 i'.elem] 27) = W1 := ⟨_, rfl⟩
  have hb := fbox hW1
  have l1 := load_str (cell_of hb.c1 0 _ rfl)
  have l2 := load_str (cell_of hb.c1 1 _ rfl)
  have l3 := load_str (cell_of hb.c2 0 _ rfl)
  have l4 := load_str (cell_of hb.c2 1 _ rfl)
  have l5 := load_fv hb.c1
  have l6 := load_fv hb.c2
  have HB1 := Lib.hid hb.below
  have hz1 := hb.size
  have HC := Lib.hid (pequal_any (N := N) (B := B) (w := W1) ⟨fi, il, rfl, hl.below (hb.below.mono hB)⟩ ⟨fi', il', rfl, hl'.below (hb.below.mono hB)⟩ (by omega))
  clear hl hl' fi fi' hb
  have HE : Hid (eqF x t i x' t' i' = ((x.toList == x'.toList) && (t.toList == t'.toList) && eqT i i')) := rfl
  obtain ⟨R, hR⟩ : ∃ R, eqF x t i x' t' i' = R := ⟨_, rfl⟩
  rw [hR] at HE ⊢
  clear hR
  by_cases hh : x = x' ∧ t = t'
  · obtain ⟨rfl, rfl⟩ := hh
    have HE2 : Hid (eqT i i' = R) := by show _ = R; rw [HE.out]; simp
    clear HE
    go_enter Tryz.func50, Tryz.ntmps50
    go_wp2_with (go_at_call 51; refine HC.out.mono ?_; rintro r w2 ⟨hr, hg2⟩; rw [HE2.out] at hr; subst hr)
    go_ret
    exact ⟨rfl, HB1.out.trans (hg2.below.mono (by omega))⟩
  · have HN := Lib.hid hh
    have HE2 : Hid (R = false) := by
      show R = false
      rw [HE.out]
      by_cases h1 : x = x'
      · by_cases h2 : t = t'
        · exact absurd ⟨h1, h2⟩ hh
        · have : ¬ t.toList = t'.toList := fun h => h2 (toList_inj h)
          simp [this]
      · have : ¬ x.toList = x'.toList := fun h => h1 (toList_inj h)
        simp [this]
    clear hh HE
    go_enter Tryz.func50, Tryz.ntmps50
    go_wp2_with (go_at_call 51; exfalso; exact HN.out ⟨toList_inj (by assumption), toList_inj (by assumption)⟩)
    all_goals
      go_ret
      exact ⟨ret_bool HE2.out.symm, HB1.out⟩

set_option maxRecDepth 100000 in
set_option maxHeartbeats 1000000 in
theorem rsameF {N B : Nat} (x t : ByteArray) (i : VT) (il : Value) (x' t' : ByteArray) (i' : VT) (il' : Value) (w : World) (fi : i.Fine) (fi' : i'.Fine) (hl : LAt B w N il i.list) (hl' : LAt B w N il' i'.list) (hB : B ≤ w.heap.size) :
    Calls Tryz.prog 43 #[.agg #[.string x, .string t, .int .i64 i.kind, .int .u64 i.num, .string i.text, il, .int .i64 i.elem], .agg #[.string x', .string t', .int .i64 i'.kind, .int .u64 i'.num, .string i'.text, il', .int .i64 i'.elem]] w fun r w' => r = .returned (.bool (eqF x t i x' t' i')) ∧ Below w.heap.size w w' := by
  obtain ⟨W1, hW1⟩ : ∃ W1, (w.alloc (.cells #[.string x, .string t, .int .i64 i.kind, .int .u64 i.num, .string i.text, il, .int .i64 i.elem] 27)).alloc (.cells #[.string x', .string t', .int .i64 i'.kind, .int .u64 i'.num, .string i'.text, il', .int .i64 i'.elem] 27) = W1 := ⟨_, rfl⟩
  have hb := fbox hW1
  have l5 := load_fv hb.c1
  have l6 := load_fv hb.c2
  have HB1 := Lib.hid hb.below
  have hz1 := hb.size
  have HC := Lib.hid (equal_any (N := N) (B := B) (w := W1) ⟨fi, il, rfl, hl.below (hb.below.mono hB)⟩ ⟨fi', il', rfl, hl'.below (hb.below.mono hB)⟩ (by omega))
  have HK : Hid (∀ w2, Below W1.heap.size W1 w2 → Cells w2 w.heap.size 0 (fcells x t i il) ∧ Cells w2 (w.heap.size + 1) 0 (fcells x' t' i' il')) := fun w2 h => ⟨hb.c1.below h (by omega), hb.c2.below h (by omega)⟩
  clear hl hl' fi fi' hb
  have HE : Hid (eqF x t i x' t' i' = ((x.toList == x'.toList) && (t.toList == t'.toList) && eqT i i')) := rfl
  obtain ⟨R, hR⟩ : ∃ R, eqF x t i x' t' i' = R := ⟨_, rfl⟩
  rw [hR] at HE ⊢
  clear hR
  obtain ⟨Y, hY⟩ : ∃ Y, eqT i i' = Y := ⟨_, rfl⟩
  rw [hY] at HE HC
  clear hY
  go_enter Tryz.func43, Tryz.ntmps43
  go_wp2_with (fail)
  clear hW1 l5 l6
  refine HC.out.mono ?_
  rintro r w2 ⟨rfl, hb2⟩
  obtain ⟨c1, c2⟩ := HK.out w2 hb2
  have l1 := load_str (cell_of c1 0 _ rfl)
  have l2 := load_str (cell_of c1 1 _ rfl)
  have l3 := load_str (cell_of c2 0 _ rfl)
  have l4 := load_str (cell_of c2 1 _ rfl)
  have HB2 := Lib.hid (HB1.out.trans (hb2.mono (by omega)))
  clear c1 c2 hb2
  cases Y with
  | false =>
    go_wp2
    go_ret
    exact ⟨ret_bool (by rw [HE.out]; simp), HB2.out⟩
  | true =>
    go_wp2
    all_goals
      go_ret
      refine ⟨ret_bool ?_, HB2.out⟩
      rw [HE.out, Bool.eq_iff_iff]
      simp_all

def outcome (k : Int) : Bool := (k == 36) || (k == 37) || (k == 38) || (k == 39)
set_option maxRecDepth 100000 in
theorem pout_any (s : ST) (il al lv : Value) (w : World) : Calls Tryz.prog 13 #[s.agg il al lv] w fun r w' => r = .returned (.bool (outcome s.kind)) ∧ Below w.heap.size w w' := by
  have l1 := load_int (cell_of (sbox_cells w s il al lv) 0 _ rfl)
  have HB := Lib.hid (sbox_below w s il al lv)
  obtain ⟨k, hk⟩ : ∃ k, s.kind = k := ⟨_, rfl⟩
  obtain ⟨W1, hW1⟩ : ∃ W1, sbox w s il al lv = W1 := ⟨_, rfl⟩
  have hW2 : w.alloc (.cells #[.int .i64 s.kind, .int .i64 s.section_, .int .i64 s.offset, .string s.cond, .string s.text, .int .i64 s.info.kind, .int .u64 s.info.num, .string s.info.text, il, .int .i64 s.info.elem, .bool s.failed, .bool s.elsewhere, .int .i64 s.ann.kind, .int .u64 s.ann.num, .string s.ann.text, al, .int .i64 s.ann.elem, .string s.txn, lv] 30) = W1 := hW1
  rw [hW1] at l1 HB
  clear hW1
  rw [hk] at l1 hW2 ⊢
  go_enter Tryz.func13, Tryz.ntmps13
  go_wp2
  all_goals
    go_ret
    refine ⟨ret_bool ?_, HB.out⟩
    simp_all [outcome]
set_option maxRecDepth 100000 in
theorem rout_any (s : ST) (il al lv : Value) (w : World) : Calls Tryz.prog 16 #[s.agg il al lv] w fun r w' => r = .returned (.bool (outcome s.kind)) ∧ Below w.heap.size w w' := by
  have l1 := load_int (cell_of (sbox_cells w s il al lv) 0 _ rfl)
  have HB := Lib.hid (sbox_below w s il al lv)
  obtain ⟨k, hk⟩ : ∃ k, s.kind = k := ⟨_, rfl⟩
  obtain ⟨W1, hW1⟩ : ∃ W1, sbox w s il al lv = W1 := ⟨_, rfl⟩
  have hW2 : w.alloc (.cells #[.int .i64 s.kind, .int .i64 s.section_, .int .i64 s.offset, .string s.cond, .string s.text, .int .i64 s.info.kind, .int .u64 s.info.num, .string s.info.text, il, .int .i64 s.info.elem, .bool s.failed, .bool s.elsewhere, .int .i64 s.ann.kind, .int .u64 s.ann.num, .string s.ann.text, al, .int .i64 s.ann.elem, .string s.txn, lv] 30) = W1 := hW1
  rw [hW1] at l1 HB
  clear hW1
  rw [hk] at l1 hW2 ⊢
  go_enter Tryz.func16, Tryz.ntmps16
  go_wp2
  all_goals
    go_ret
    refine ⟨ret_bool ?_, HB.out⟩
    simp_all [outcome]
end Go.Proofs.YtckggmcjcdkfhaaGreatDoor.Va
