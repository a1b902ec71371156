/-
  cmp.Compare, strings.Compare, cmp.Or; value.Order and slices.CompareFunc: how two values stand to one another. No condition but that the values lie so.
-/
import Derived.Test.YtckggmcjcdkfhaaGreatDoorV3
import Derived.Test.YtckggmcjcdkfhaaGreatDoorShU
import Derived.Test.YtckggmcjcdkfhaaGreatDoorNuOrd
namespace Go.Proofs.YtckggmcjcdkfhaaGreatDoor.Va
open Go Go.RowKit Go.Proofs.Nu
attribute [local go_sem ↓] Go.wp_at_zero Go.wp_at_succ

set_option maxRecDepth 100000 in
theorem nan_int (a : Int) (w : World) : Calls Tryz.prog 248 #[.int .i64 a] w fun e w' => e = .returned (.bool false) ∧ w' = w := by
  go_enter Tryz.func248, Tryz.ntmps248
  go_wp2
  all_goals (go_ret; exact ⟨ret_bool (by simp), rfl⟩)
set_option maxRecDepth 100000 in
theorem nan_u64 (a : Int) (w : World) : Calls Tryz.prog 249 #[.int .u64 a] w fun e w' => e = .returned (.bool false) ∧ w' = w := by
  go_enter Tryz.func249, Tryz.ntmps249
  go_wp2
  all_goals (go_ret; exact ⟨ret_bool (by simp), rfl⟩)
set_option maxRecDepth 100000 in
theorem cmp_int (a b : Int) (w : World) : Calls Tryz.prog 231 #[.int .i64 a, .int .i64 b] w fun e w' => e = .returned (.int .i64 (Lib.compareInt a b)) ∧ w' = w := by
  have hc : (a < b ∧ Lib.compareInt a b = -1) ∨ (¬ a < b ∧ b < a ∧ Lib.compareInt a b = 1) ∨ (¬ a < b ∧ ¬ b < a ∧ Lib.compareInt a b = 0) := by
    unfold Lib.compareInt; (repeat' split) <;> omega
  obtain ⟨R, hR⟩ : ∃ R, Lib.compareInt a b = R := ⟨_, rfl⟩
  rw [hR] at hc ⊢
  rcases hc with ⟨h1, rfl⟩ | ⟨h1, h2, rfl⟩ | ⟨h1, h2, rfl⟩
  all_goals
    clear hR
    go_enter Tryz.func231, Tryz.ntmps231
    go_wp2_with (go_at_call 248; refine (nan_int _ _).mono ?_; rintro e w' ⟨rfl, rfl⟩)
    go_ret
    exact ⟨rfl, rfl⟩
set_option maxRecDepth 100000 in
theorem cmp_u64 (a b : Int) (w : World) : Calls Tryz.prog 232 #[.int .u64 a, .int .u64 b] w fun e w' => e = .returned (.int .i64 (Lib.compareInt a b)) ∧ w' = w := by
  have hc : (a < b ∧ Lib.compareInt a b = -1) ∨ (¬ a < b ∧ b < a ∧ Lib.compareInt a b = 1) ∨ (¬ a < b ∧ ¬ b < a ∧ Lib.compareInt a b = 0) := by
    unfold Lib.compareInt; (repeat' split) <;> omega
  obtain ⟨R, hR⟩ : ∃ R, Lib.compareInt a b = R := ⟨_, rfl⟩
  rw [hR] at hc ⊢
  rcases hc with ⟨h1, rfl⟩ | ⟨h1, h2, rfl⟩ | ⟨h1, h2, rfl⟩
  all_goals
    clear hR
    go_enter Tryz.func232, Tryz.ntmps232
    go_wp2_with (go_at_call 249; refine (nan_u64 _ _).mono ?_; rintro e w' ⟨rfl, rfl⟩)
    go_ret
    exact ⟨rfl, rfl⟩
theorem cmp_str (a b : ByteArray) (w : World) : Calls Tryz.prog 233 #[.string a, .string b] w fun e w' => e = .returned (.int .i64 (Lib.compareBytes a.data.toList b.data.toList)) ∧ w' = w :=
  Any.strings_Compare Tryz.cmp106 a b w

theorem ret_i {a b : Int} (h : a = b) : Ending.returned (.int .i64 a) = .returned (.int .i64 b) := by rw [h]
set_option maxRecDepth 100000 in
theorem or3 (b : Nat) (a0 a1 a2 : Int) (c : Nat) (w : World) (h0 : w.cell? ⟨b, 0, none⟩ = some (.int .i64 a0)) (h1 : w.cell? ⟨b, 1, none⟩ = some (.int .i64 a1)) (h2 : w.cell? ⟨b, 2, none⟩ = some (.int .i64 a2)) :
    Calls Tryz.prog 230 #[.slice (some ⟨b, 0, none⟩) 3 c] w fun e w' => e = .returned (.int .i64 (seq a0 (seq a1 a2))) ∧ w' = w := by
  by_cases n0 : a0 = 0
  · by_cases n1 : a1 = 0
    · subst n0 n1
      by_cases n2 : a2 = 0
      · subst n2
        go_enter Tryz.func230, Tryz.ntmps230
        go_wp2
        refine wp_loop_rounds 4 ?_
        repeat (rw [rounds_succ]; go_wp2)
        go_ret
        exact ⟨rfl, rfl⟩
      · have H := Lib.hid n2
        have hb : (a2 != 0) = true := by simpa using n2
        clear n2
        go_enter Tryz.func230, Tryz.ntmps230
        go_wp2
        refine wp_loop_rounds 4 ?_
        repeat (rw [rounds_succ]; go_wp2)
        go_ret
        exact ⟨rfl, rfl⟩
    · subst n0
      have H := Lib.hid n1
      have hb : (a1 != 0) = true := by simpa using n1
      have hs : seq 0 (seq a1 a2) = a1 := by unfold seq; simp [n1]
      rw [hs]
      clear n1 hs
      go_enter Tryz.func230, Tryz.ntmps230
      go_wp2
      refine wp_loop_rounds 4 ?_
      repeat (rw [rounds_succ]; go_wp2)
      go_ret
      exact ⟨rfl, rfl⟩
  · have hb : (a0 != 0) = true := by simpa using n0
    have hs : seq a0 (seq a1 a2) = a0 := by unfold seq; simp [n0]
    rw [hs]
    clear n0 hs
    go_enter Tryz.func230, Tryz.ntmps230
    go_wp2
    refine wp_loop_rounds 4 ?_
    repeat (rw [rounds_succ]; go_wp2)
    go_ret
    exact ⟨rfl, rfl⟩
set_option maxRecDepth 100000 in
theorem or2 (b : Nat) (a0 a1 : Int) (c : Nat) (w : World) (h0 : w.cell? ⟨b, 0, none⟩ = some (.int .i64 a0)) (h1 : w.cell? ⟨b, 1, none⟩ = some (.int .i64 a1)) :
    Calls Tryz.prog 230 #[.slice (some ⟨b, 0, none⟩) 2 c] w fun e w' => e = .returned (.int .i64 (seq a0 a1)) ∧ w' = w := by
  by_cases n0 : a0 = 0
  · subst n0
    by_cases n2 : a1 = 0
    · subst n2
      go_enter Tryz.func230, Tryz.ntmps230
      go_wp2
      refine wp_loop_rounds 3 ?_
      repeat (rw [rounds_succ]; go_wp2)
      go_ret
      exact ⟨rfl, rfl⟩
    · have H := Lib.hid n2
      have hb : (a1 != 0) = true := by simpa using n2
      clear n2
      go_enter Tryz.func230, Tryz.ntmps230
      go_wp2
      refine wp_loop_rounds 3 ?_
      repeat (rw [rounds_succ]; go_wp2)
      go_ret
      exact ⟨rfl, rfl⟩
  · have hb : (a0 != 0) = true := by simpa using n0
    have hs : seq a0 a1 = a0 := by unfold seq; simp [n0]
    rw [hs]
    clear n0 hs
    go_enter Tryz.func230, Tryz.ntmps230
    go_wp2
    refine wp_loop_rounds 3 ?_
    repeat (rw [rounds_succ]; go_wp2)
    go_ret
    exact ⟨rfl, rfl⟩
end Go.Proofs.YtckggmcjcdkfhaaGreatDoor.Va
