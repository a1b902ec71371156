/-
  The program's wrong: its walk at a crash, at something got. No condition but what the judge holds.
-/
import Derived.Test.YtgincippgaecfaaJ15
namespace Go.Proofs.Ytgincippgaecfaa.Au
open Go Go.RowKit
attribute [local go_sem ↓] Go.wp_at_zero Go.wp_at_succ

set_option maxRecDepth 100000 in
set_option maxHeartbeats 4000000 in
theorem crash_any (p : Value) (who m c : Int) (q : ByteArray) (d : Bool) (W : World) :
    Calls Try.prog 21 #[p, .agg #[.int .i64 7, .int .i64 who, .string q, .int .i64 m, .int .i64 c, .bool d]] W fun r W' => r = .returned (.int .i64 0) ∧ Below W.heap.size W W' := by
  have hB2 := W2of_below W ⟨7, who, q, m, c, d⟩
  unfold W2of at hB2
  have HB2 := Lib.hid hB2
  clear hB2
  go_enter Try.func21, Try.ntmps21
  go_wp2
  go_ret
  exact ⟨rfl, HB2.out⟩

set_option maxRecDepth 100000 in
set_option maxHeartbeats 4000000 in
theorem got_no (S : Nat) (g : Int) (who m c : Int) (q : ByteArray) (d : Bool) (W : World) (hg : ¬ g = 0)
    (hc : Calls Try.prog 39 #[.pointer (some ⟨S + 5, 0, none⟩), .agg #[.int .i64 4, .int .i64 who, .string q, .int .i64 m, .int .i64 c, .bool d]] (W2of W ⟨4, who, q, m, c, d⟩) fun r w' => r = .returned (.int .i64 g) ∧ Below (W2of W ⟨4, who, q, m, c, d⟩).heap.size (W2of W ⟨4, who, q, m, c, d⟩) w') :
    Calls Try.prog 21 #[.pointer (some ⟨S + 5, 0, none⟩), .agg #[.int .i64 4, .int .i64 who, .string q, .int .i64 m, .int .i64 c, .bool d]] W fun r W' => r = .returned (.int .i64 g) ∧ Below W.heap.size W W' := by
  have hB2 := W2of_below W ⟨4, who, q, m, c, d⟩
  have hz := W2of_size W ⟨4, who, q, m, c, d⟩
  have HZ := Lib.hid hz
  unfold W2of at hB2 hc HZ
  have HB2 := Lib.hid hB2
  clear hB2 hz
  go_enter Try.func21, Try.ntmps21
  go_wp2_with (first
    | (go_at_call 39; refine hc.mono ?_; clear hc; rintro r w4 ⟨rfl, hb4⟩; have HB4 := Lib.hid hb4; clear hb4)
    | go_in)
  go_ret
  exact ⟨rfl, HB2.out.trans (HB4.out.mono (by rw [HZ.out]; omega))⟩

set_option maxRecDepth 100000 in
set_option maxHeartbeats 4000000 in
theorem got_yesJ (S n : Nat) (f : Value → Value) (x : Int) (who m c : Int) (q : ByteArray) (d : Bool) (W : World) (hj : W.cell? ⟨S + 5, 2, none⟩ = some (.map (some (S + 2)))) (hlt : S + 5 < W.heap.size) (hM : MapV W 55 (S + 2) n (.int .i64 0) f) (hn : n < maxLen)
    (hk : KeyOk 55 (alikeV ⟨4, who, q, m, c, d⟩)) (hf : f (alikeV ⟨4, who, q, m, c, d⟩) = .int .i64 x) (h0 : 0 ≤ x) (h1 : x ≤ 1000)
    (hc : Calls Try.prog 39 #[.pointer (some ⟨S + 5, 0, none⟩), .agg #[.int .i64 4, .int .i64 who, .string q, .int .i64 m, .int .i64 c, .bool d]] (W2of W ⟨4, who, q, m, c, d⟩) fun r w' => r = .returned (.int .i64 0) ∧ Below (W2of W ⟨4, who, q, m, c, d⟩).heap.size (W2of W ⟨4, who, q, m, c, d⟩) w') :
    Calls Try.prog 21 #[.pointer (some ⟨S + 5, 0, none⟩), .agg #[.int .i64 4, .int .i64 who, .string q, .int .i64 m, .int .i64 c, .bool d]] W fun r W' => r = .returned (.int .i64 0) ∧ ∃ W1, Below W.heap.size W W1 ∧ W1.grownBy W' (some (S + 2)) ∧ MapV W' 55 (S + 2) (n + 1) (.int .i64 0) (upd f (alikeV ⟨4, who, q, m, c, d⟩) (.int .i64 (x + 1))) := by
  have hB2 := W2of_below W ⟨4, who, q, m, c, d⟩
  have hz := W2of_size W ⟨4, who, q, m, c, d⟩
  have hx : ∀ w4, Below (W2of W ⟨4, who, q, m, c, d⟩).heap.size (W2of W ⟨4, who, q, m, c, d⟩) w4 → Below W.heap.size W w4 ∧ w4.cell? ⟨S + 5, 2, none⟩ = some (.map (some (S + 2))) ∧ EntAt w4 (W.heap.size + 1) 0 ⟨0, who, q, m, c, d⟩ := fun w4 h4 => by
    have h5 := hB2.trans (h4.mono (by omega))
    refine ⟨h5, (h5.cell (p := ⟨S + 5, 2, none⟩) hlt).trans hj, EntAt.below h4 (by omega) ?_⟩
    refine ⟨?_, ?_, ?_, ?_, ?_, ?_⟩ <;> simp [W2of]
  have HX := Lib.hid hx
  have HM := Lib.hid hM
  have HK := Lib.hid hk
  have HF := Lib.hid hf
  unfold W2of at hc HX
  clear hB2 hz hx hM hk hf hj
  go_enter Try.func21, Try.ntmps21
  go_wp2_with (first
    | (go_at_call 39; refine hc.mono ?_; clear hc; rintro r w4 ⟨rfl, hb4⟩
       obtain ⟨hb5, hj5, e0, e1, e2, e3, e4, e5⟩ := HX.out w4 hb4
       clear hb4
       simp only at e0 e1 e2 e3 e4 e5
       have hM4 := (HM.out.below hb5 HM.out.lt).drew
       obtain ⟨v0, st, w6, hme, hm6, hg6, hst⟩ := hM4.entry law55 Try.underlying61 zero3 hn HK.out
       have hlk := hM4.look keyed55 Try.underlying61 (zero3 _) HK.out
       have hlk6 := hm6.look keyed55 Try.underlying61 (zero3 _) HK.out
       rw [HF.out] at hlk hlk6
       obtain ⟨w7, hes, hg7, hm7⟩ := hst w6 (.int .i64 (x + 1)) rfl
       have hes' : (Instr.entryStore 61 (.map (some (S + 2))) (.int .i64 st) (.int .i64 (x + 1))).run Try.prog w6 = .ok () w7 := hes
       have HB5 := Lib.hid hb5
       have HG := Lib.hid (And.intro hg6 (And.intro hg7 hm7))
       unfold alikeV at hme hlk hlk6
       clear hes hst hm6 hM4 hb5 hg6 hg7 hm7)
    | go_in)
  go_region
  all_goals go_wp2
  all_goals go_ret
  all_goals exact ⟨rfl, w4, HB5.out, (Grow.drew _ _).trans (HG.out.1.trans HG.out.2.1), HG.out.2.2 _ (upd_same _ _ _) fun y hy => upd_other _ _ _ hy⟩

end Go.Proofs.Ytgincippgaecfaa.Au
