/-
  The program's wrong: its walk at each kind of entry. No condition but what the judge holds.
-/
import Derived.Test.YtgincippgaecfaaJ13
namespace Go.Proofs.Ytgincippgaecfaa.Au
open Go Go.RowKit
attribute [local go_sem ↓] Go.wp_at_zero Go.wp_at_succ

/-- The world in which wrong works: the entry and its like lie in blocks of their own. -/
def W2of (W : World) (e : Ent) : World := (W.alloc (.cells #[.int .i64 e.kind, .int .i64 e.who, .string e.queue, .int .i64 e.msg, .int .i64 e.count, .bool e.dur] 55)).alloc (.cells #[.int .i64 0, .int .i64 e.who, .string e.queue, .int .i64 e.msg, .int .i64 e.count, .bool e.dur] 55)
theorem W2of_below (W : World) (e : Ent) : Below W.heap.size W (W2of W e) := ((Below.refl _ W).alloc (Nat.le_refl _) _).alloc (by simp) _
theorem W2of_size (W : World) (e : Ent) : (W2of W e).heap.size = W.heap.size + 2 := by simp [W2of]

theorem JI.cellsJ {S B2 : Nat} {w0 W : World} {qs : List Qc} {pre : List Ent} (h : JI S B2 w0 qs pre W) : W.cell? ⟨S + 5, 0, none⟩ = some (.map (some S)) ∧ W.cell? ⟨S + 5, 1, none⟩ = some (.map (some (S + 1))) ∧ W.cell? ⟨S + 5, 2, none⟩ = some (.map (some (S + 2))) ∧ W.cell? ⟨S + 5, 3, none⟩ = some (.map (some (S + 3))) ∧ W.cell? ⟨S + 5, 4, none⟩ = some (.map (some (S + 4))) := by
  have := h.box
  simp [World.cell?, this]
theorem JI.lt {S B2 : Nat} {w0 W : World} {qs : List Qc} {pre : List Ent} (h : JI S B2 w0 qs pre W) : S + 5 < W.heap.size := (Array.getElem?_eq_some_iff.1 h.box).1

set_option maxRecDepth 100000 in
set_option maxHeartbeats 4000000 in
theorem told2_no (S n : Nat) (f : Value → Value) (who m c : Int) (q : ByteArray) (d : Bool) (W : World) (hj : W.cell? ⟨S + 5, 1, none⟩ = some (.map (some (S + 1)))) (hlt : S + 5 < W.heap.size) (hM : MapV W 55 (S + 1) n (.int .i64 0) f)
    (hk : KeyOk 55 (alikeV ⟨2, who, q, m, c, d⟩)) (hf : f (alikeV ⟨2, who, q, m, c, d⟩) = .int .i64 0) :
    Calls Try.prog 21 #[.pointer (some ⟨S + 5, 0, none⟩), .agg #[.int .i64 2, .int .i64 who, .string q, .int .i64 m, .int .i64 c, .bool d]] W fun r W' => r = .returned (.int .i64 1) ∧ Below W.heap.size W W' := by
  have hB2 := W2of_below W ⟨2, who, q, m, c, d⟩
  have hj2 := (hB2.cell (p := ⟨S + 5, 1, none⟩) hlt).trans hj
  have hov := fun k => over_zero (S + 1) n f 0 who m c q d ((W2of W ⟨2, who, q, m, c, d⟩).drewN k) ((hM.below hB2 hM.lt).at_block rfl) hk hf
  have HB2 := Lib.hid hB2
  unfold W2of at hj2 hov
  clear hB2 hj hM hk hf
  go_enter Try.func21, Try.ntmps21
  go_wp2
  go_region_with ((go_at_call 38; refine (hov 1).mono ?_; rintro r w2 ⟨rfl, hb2⟩))
  all_goals go_wp2
  all_goals go_ret
  all_goals exact ⟨rfl, (HB2.out.drew).trans (hb2.mono (by simp [World.drewN]; omega))⟩

set_option maxRecDepth 100000 in
set_option maxHeartbeats 4000000 in
theorem told2_yes (S n : Nat) (f : Value → Value) (x who m c : Int) (q : ByteArray) (d : Bool) (W : World) (hj : W.cell? ⟨S + 5, 1, none⟩ = some (.map (some (S + 1)))) (hlt : S + 5 < W.heap.size) (hM : MapV W 55 (S + 1) n (.int .i64 0) f) (hn : n < maxLen)
    (hk : KeyOk 55 (alikeV ⟨2, who, q, m, c, d⟩)) (hf : f (alikeV ⟨2, who, q, m, c, d⟩) = .int .i64 x) (h0 : 0 < x) (h1 : x ≤ 1000) :
    Calls Try.prog 21 #[.pointer (some ⟨S + 5, 0, none⟩), .agg #[.int .i64 2, .int .i64 who, .string q, .int .i64 m, .int .i64 c, .bool d]] W fun r W' => r = .returned (.int .i64 0) ∧ W.grownBy W' (some (S + 1)) ∧ MapV W' 55 (S + 1) (n + 1) (.int .i64 0) (upd f (alikeV ⟨2, who, q, m, c, d⟩) (.int .i64 (x - 1))) := by
  have hB2 := W2of_below W ⟨2, who, q, m, c, d⟩
  have hj2 := (hB2.cell (p := ⟨S + 5, 1, none⟩) hlt).trans hj
  have hov := fun k => over_some (S + 1) n f 0 who m c x q d ((W2of W ⟨2, who, q, m, c, d⟩).drewN k) ((hM.below hB2 hM.lt).at_block rfl) hn hk hf h0 h1
  have HB2 := Lib.hid hB2
  unfold W2of at hj2 hov
  clear hB2 hj hM hk hf h0 h1
  go_enter Try.func21, Try.ntmps21
  go_wp2
  go_region_with ((go_at_call 38; refine (hov 1).mono ?_; rintro r w2 ⟨rfl, hg2, hm2⟩))
  all_goals go_wp2
  all_goals go_ret
  all_goals exact ⟨rfl, ((World.grownBy_alloc W _ _).trans (World.grownBy_alloc _ _ _)).trans ((Grow.drew _ _).trans hg2), hm2 _ (upd_same _ _ _) fun y hy => upd_other _ _ _ hy⟩

set_option maxRecDepth 100000 in
set_option maxHeartbeats 4000000 in
theorem told3_no (S n : Nat) (f : Value → Value) (who m c : Int) (q : ByteArray) (d : Bool) (W : World) (hj : W.cell? ⟨S + 5, 1, none⟩ = some (.map (some (S + 1)))) (hlt : S + 5 < W.heap.size) (hM : MapV W 55 (S + 1) n (.int .i64 0) f)
    (hk : KeyOk 55 (alikeV ⟨3, who, q, m, c, d⟩)) (hf : f (alikeV ⟨3, who, q, m, c, d⟩) = .int .i64 0) :
    Calls Try.prog 21 #[.pointer (some ⟨S + 5, 0, none⟩), .agg #[.int .i64 3, .int .i64 who, .string q, .int .i64 m, .int .i64 c, .bool d]] W fun r W' => r = .returned (.int .i64 1) ∧ Below W.heap.size W W' := by
  have hB2 := W2of_below W ⟨3, who, q, m, c, d⟩
  have hj2 := (hB2.cell (p := ⟨S + 5, 1, none⟩) hlt).trans hj
  have hov := fun k => over_zero (S + 1) n f 0 who m c q d ((W2of W ⟨3, who, q, m, c, d⟩).drewN k) ((hM.below hB2 hM.lt).at_block rfl) hk hf
  have HB2 := Lib.hid hB2
  unfold W2of at hj2 hov
  clear hB2 hj hM hk hf
  go_enter Try.func21, Try.ntmps21
  go_wp2
  go_region_with ((go_at_call 38; refine (hov 1).mono ?_; rintro r w2 ⟨rfl, hb2⟩))
  all_goals go_wp2
  all_goals go_ret
  all_goals exact ⟨rfl, (HB2.out.drew).trans (hb2.mono (by simp [World.drewN]; omega))⟩

set_option maxRecDepth 100000 in
set_option maxHeartbeats 4000000 in
theorem told3_yes (S n : Nat) (f : Value → Value) (x who m c : Int) (q : ByteArray) (d : Bool) (W : World) (hj : W.cell? ⟨S + 5, 1, none⟩ = some (.map (some (S + 1)))) (hlt : S + 5 < W.heap.size) (hM : MapV W 55 (S + 1) n (.int .i64 0) f) (hn : n < maxLen)
    (hk : KeyOk 55 (alikeV ⟨3, who, q, m, c, d⟩)) (hf : f (alikeV ⟨3, who, q, m, c, d⟩) = .int .i64 x) (h0 : 0 < x) (h1 : x ≤ 1000) :
    Calls Try.prog 21 #[.pointer (some ⟨S + 5, 0, none⟩), .agg #[.int .i64 3, .int .i64 who, .string q, .int .i64 m, .int .i64 c, .bool d]] W fun r W' => r = .returned (.int .i64 0) ∧ W.grownBy W' (some (S + 1)) ∧ MapV W' 55 (S + 1) (n + 1) (.int .i64 0) (upd f (alikeV ⟨3, who, q, m, c, d⟩) (.int .i64 (x - 1))) := by
  have hB2 := W2of_below W ⟨3, who, q, m, c, d⟩
  have hj2 := (hB2.cell (p := ⟨S + 5, 1, none⟩) hlt).trans hj
  have hov := fun k => over_some (S + 1) n f 0 who m c x q d ((W2of W ⟨3, who, q, m, c, d⟩).drewN k) ((hM.below hB2 hM.lt).at_block rfl) hn hk hf h0 h1
  have HB2 := Lib.hid hB2
  unfold W2of at hj2 hov
  clear hB2 hj hM hk hf h0 h1
  go_enter Try.func21, Try.ntmps21
  go_wp2
  go_region_with ((go_at_call 38; refine (hov 1).mono ?_; rintro r w2 ⟨rfl, hg2, hm2⟩))
  all_goals go_wp2
  all_goals go_ret
  all_goals exact ⟨rfl, ((World.grownBy_alloc W _ _).trans (World.grownBy_alloc _ _ _)).trans ((Grow.drew _ _).trans hg2), hm2 _ (upd_same _ _ _) fun y hy => upd_other _ _ _ hy⟩

set_option maxRecDepth 100000 in
set_option maxHeartbeats 4000000 in
theorem done5_no (S n : Nat) (f : Value → Value) (who m c : Int) (q : ByteArray) (d : Bool) (W : World) (hj : W.cell? ⟨S + 5, 2, none⟩ = some (.map (some (S + 2)))) (hlt : S + 5 < W.heap.size) (hM : MapV W 55 (S + 2) n (.int .i64 0) f)
    (hk : KeyOk 55 (alikeV ⟨5, who, q, m, c, d⟩)) (hf : f (alikeV ⟨5, who, q, m, c, d⟩) = .int .i64 0) :
    Calls Try.prog 21 #[.pointer (some ⟨S + 5, 0, none⟩), .agg #[.int .i64 5, .int .i64 who, .string q, .int .i64 m, .int .i64 c, .bool d]] W fun r W' => r = .returned (.int .i64 6) ∧ Below W.heap.size W W' := by
  have hB2 := W2of_below W ⟨5, who, q, m, c, d⟩
  have hj2 := (hB2.cell (p := ⟨S + 5, 2, none⟩) hlt).trans hj
  have hov := fun k => over_zero (S + 2) n f 0 who m c q d ((W2of W ⟨5, who, q, m, c, d⟩).drewN k) ((hM.below hB2 hM.lt).at_block rfl) hk hf
  have HB2 := Lib.hid hB2
  unfold W2of at hj2 hov
  clear hB2 hj hM hk hf
  go_enter Try.func21, Try.ntmps21
  go_wp2
  go_region_with ((go_at_call 38; refine (hov 1).mono ?_; rintro r w2 ⟨rfl, hb2⟩))
  all_goals go_wp2
  all_goals go_ret
  all_goals exact ⟨rfl, (HB2.out.drew).trans (hb2.mono (by simp [World.drewN]; omega))⟩

set_option maxRecDepth 100000 in
set_option maxHeartbeats 4000000 in
theorem done5_yes (S n : Nat) (f : Value → Value) (x who m c : Int) (q : ByteArray) (d : Bool) (W : World) (hj : W.cell? ⟨S + 5, 2, none⟩ = some (.map (some (S + 2)))) (hlt : S + 5 < W.heap.size) (hM : MapV W 55 (S + 2) n (.int .i64 0) f) (hn : n < maxLen)
    (hk : KeyOk 55 (alikeV ⟨5, who, q, m, c, d⟩)) (hf : f (alikeV ⟨5, who, q, m, c, d⟩) = .int .i64 x) (h0 : 0 < x) (h1 : x ≤ 1000) :
    Calls Try.prog 21 #[.pointer (some ⟨S + 5, 0, none⟩), .agg #[.int .i64 5, .int .i64 who, .string q, .int .i64 m, .int .i64 c, .bool d]] W fun r W' => r = .returned (.int .i64 0) ∧ W.grownBy W' (some (S + 2)) ∧ MapV W' 55 (S + 2) (n + 1) (.int .i64 0) (upd f (alikeV ⟨5, who, q, m, c, d⟩) (.int .i64 (x - 1))) := by
  have hB2 := W2of_below W ⟨5, who, q, m, c, d⟩
  have hj2 := (hB2.cell (p := ⟨S + 5, 2, none⟩) hlt).trans hj
  have hov := fun k => over_some (S + 2) n f 0 who m c x q d ((W2of W ⟨5, who, q, m, c, d⟩).drewN k) ((hM.below hB2 hM.lt).at_block rfl) hn hk hf h0 h1
  have HB2 := Lib.hid hB2
  unfold W2of at hj2 hov
  clear hB2 hj hM hk hf h0 h1
  go_enter Try.func21, Try.ntmps21
  go_wp2
  go_region_with ((go_at_call 38; refine (hov 1).mono ?_; rintro r w2 ⟨rfl, hg2, hm2⟩; have hE0 : w2.cell? ⟨W.heap.size, 0, none⟩ = some (.int .i64 5) := (hg2.cell_far ⟨W.heap.size, 0, none⟩ (by simp; omega) (by simp; omega)).trans (by simp)))
  all_goals go_wp2
  all_goals go_ret
  all_goals exact ⟨rfl, ((World.grownBy_alloc W _ _).trans (World.grownBy_alloc _ _ _)).trans ((Grow.drew _ _).trans hg2), hm2 _ (upd_same _ _ _) fun y hy => upd_other _ _ _ hy⟩

set_option maxRecDepth 100000 in
set_option maxHeartbeats 4000000 in
theorem back6_no (S n : Nat) (f : Value → Value) (who m c : Int) (q : ByteArray) (d : Bool) (W : World) (hj : W.cell? ⟨S + 5, 2, none⟩ = some (.map (some (S + 2)))) (hlt : S + 5 < W.heap.size) (hM : MapV W 55 (S + 2) n (.int .i64 0) f)
    (hk : KeyOk 55 (alikeV ⟨6, who, q, m, c, d⟩)) (hf : f (alikeV ⟨6, who, q, m, c, d⟩) = .int .i64 0) :
    Calls Try.prog 21 #[.pointer (some ⟨S + 5, 0, none⟩), .agg #[.int .i64 6, .int .i64 who, .string q, .int .i64 m, .int .i64 c, .bool d]] W fun r W' => r = .returned (.int .i64 6) ∧ Below W.heap.size W W' := by
  have hB2 := W2of_below W ⟨6, who, q, m, c, d⟩
  have hj2 := (hB2.cell (p := ⟨S + 5, 2, none⟩) hlt).trans hj
  have hov := fun k => over_zero (S + 2) n f 0 who m c q d ((W2of W ⟨6, who, q, m, c, d⟩).drewN k) ((hM.below hB2 hM.lt).at_block rfl) hk hf
  have HB2 := Lib.hid hB2
  unfold W2of at hj2 hov
  clear hB2 hj hM hk hf
  go_enter Try.func21, Try.ntmps21
  go_wp2
  go_region_with ((go_at_call 38; refine (hov 1).mono ?_; rintro r w2 ⟨rfl, hb2⟩))
  all_goals go_wp2
  all_goals go_ret
  all_goals exact ⟨rfl, (HB2.out.drew).trans (hb2.mono (by simp [World.drewN]; omega))⟩

set_option maxRecDepth 100000 in
set_option maxHeartbeats 4000000 in
theorem back6_yes (S n : Nat) (f : Value → Value) (x who m c : Int) (q : ByteArray) (d : Bool) (W : World) (hj : W.cell? ⟨S + 5, 2, none⟩ = some (.map (some (S + 2)))) (hlt : S + 5 < W.heap.size) (hM : MapV W 55 (S + 2) n (.int .i64 0) f) (hn : n < maxLen)
    (hk : KeyOk 55 (alikeV ⟨6, who, q, m, c, d⟩)) (hf : f (alikeV ⟨6, who, q, m, c, d⟩) = .int .i64 x) (h0 : 0 < x) (h1 : x ≤ 1000) 
    (fb : Value → Value) (nb : Nat) (bc : Int) (hMb : MapV W 3 (S + 4) nb (.int .i64 0) fb) (hnb : nb < maxLen) (hfb : fb (.int .i64 m) = .int .i64 bc) (hb0 : 0 ≤ bc) (hb1 : bc ≤ 1000) (hm : (Lit.int .i64 m).wf = true) (hj4 : W.cell? ⟨S + 5, 4, none⟩ = some (.map (some (S + 4)))) :
    Calls Try.prog 21 #[.pointer (some ⟨S + 5, 0, none⟩), .agg #[.int .i64 6, .int .i64 who, .string q, .int .i64 m, .int .i64 c, .bool d]] W fun r W' => r = .returned (.int .i64 0) ∧ ∃ W1, (W.grownBy W1 (some (S + 2)) ∧ MapV W1 55 (S + 2) (n + 1) (.int .i64 0) (upd f (alikeV ⟨6, who, q, m, c, d⟩) (.int .i64 (x - 1)))) ∧ W1.grownBy W' (some (S + 4)) ∧ MapV W' 3 (S + 4) (nb + 1) (.int .i64 0) (upd fb (.int .i64 m) (.int .i64 (bc + 1))) := by
  have hB2 := W2of_below W ⟨6, who, q, m, c, d⟩
  have hj2 := (hB2.cell (p := ⟨S + 5, 2, none⟩) hlt).trans hj
  have hov := fun k => over_some (S + 2) n f 0 who m c x q d ((W2of W ⟨6, who, q, m, c, d⟩).drewN k) ((hM.below hB2 hM.lt).at_block rfl) hn hk hf h0 h1
  have HB2 := Lib.hid hB2
  unfold W2of at hj2 hov
  clear hB2 hj hM hk hf h0 h1
  have HJ4 := Lib.hid hj4
  have HMB := Lib.hid hMb
  have HW := Lib.hid hm
  have HFB := Lib.hid hfb
  clear hj4 hMb hm hfb
  go_enter Try.func21, Try.ntmps21
  go_wp2
  go_region_with ((go_at_call 38; refine (hov 1).mono ?_; rintro r w2 ⟨rfl, hg2, hm2⟩; have hE0 : w2.cell? ⟨W.heap.size, 0, none⟩ = some (.int .i64 6) := (hg2.cell_far ⟨W.heap.size, 0, none⟩ (by simp; omega) (by simp; omega)).trans (by simp); have hE3 : w2.cell? ⟨W.heap.size, 3, none⟩ = some (.int .i64 m) := (hg2.cell_far ⟨W.heap.size, 3, none⟩ (by simp; omega) (by simp; omega)).trans (by simp); have hG := ((World.grownBy_alloc W _ _).trans (World.grownBy_alloc _ _ _)).trans ((Grow.drew _ _).trans hg2); have hJ4 : w2.cell? ⟨S + 5, 4, none⟩ = some (.map (some (S + 4))) := (hG.cell_far ⟨S + 5, 4, none⟩ hlt (by simp)).trans HJ4.out; have hMb2 := HMB.out.kept hG (by simp); have HM2 := Lib.hid (And.intro hG (hm2 _ (upd_same _ _ _) fun y hy => upd_other _ _ _ hy)); clear hg2 hm2 hG; have hlb := hMb2.drew.look keyed3 Try.underlying64 (zero3 _) (key3 HW.out); rw [HFB.out] at hlb; obtain ⟨w9, hr9, hm9, hg9⟩ := hMb2.drew.put keyed3 Try.underlying64 hnb (key3 HW.out) (.int .i64 (bc + 1)); have HM9 := Lib.hid (And.intro hg9 (hm9 _ (upd_same _ _ _) fun y hy => upd_other _ _ _ hy)); clear hm9 hg9 hMb2))
  all_goals go_wp2
  all_goals go_region
  all_goals go_wp2
  all_goals go_ret
  all_goals exact ⟨rfl, _, HM2.out, (Grow.drew _ _).trans HM9.out.1, HM9.out.2⟩

end Go.Proofs.Ytgincippgaecfaa.Au
