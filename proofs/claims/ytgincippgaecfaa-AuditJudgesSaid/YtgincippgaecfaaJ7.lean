/-
  The program's HasPrefix, CutPrefix and over: their walks.
-/
import Derived.Test.YtgincippgaecfaaJ6
import Derived.Test.YtgincippgaecfaaJ3
import Derived.Deep.RegionHeld3
import Derived.Deep.DrawnRows
import Derived.Deep.AppendLies
namespace Go.Proofs.Ytgincippgaecfaa.Au
open Go Go.RowKit
attribute [local go_sem ↓] Go.wp_at_zero Go.wp_at_succ

set_option maxRecDepth 100000 in
set_option maxHeartbeats 1000000 in
theorem prefix81_any (s h : ByteArray) (w : World) :
    Calls Try.prog 81 #[.string s, .string h] w fun r w' => r = .returned (.bool (beginsB s.toList h.toList)) ∧ w' = w := by
  go_enter Try.func81, Try.ntmps81
  by_cases hl : h.size ≤ s.size
  · go_wp2
    go_ret
    exact ⟨ret_bool beginsB_take.symm, rfl⟩
  · go_wp2
    go_ret
    exact ⟨ret_bool (beginsB_short hl).symm, rfl⟩

set_option maxRecDepth 100000 in
set_option maxHeartbeats 1000000 in
theorem prefix53_any (s h : ByteArray) (w : World) :
    Calls Try.prog 53 #[.string s, .string h] w fun r w' => r = .returned (.bool (beginsB s.toList h.toList)) ∧ w' = w := by
  go_enter Try.func53, Try.ntmps53
  go_wp2_with (go_at_call 81; refine (prefix81_any _ _ _).mono ?_; rintro r w2 ⟨rfl, hw2⟩; cases hw2)
  go_ret
  exact ⟨rfl, rfl⟩

theorem Grow.drew (W : World) (row : Option Nat) : W.grownBy W.drew row := ⟨rfl, rfl, rfl, Nat.le_refl _, fun _ _ _ => rfl⟩

def cutA (s h : ByteArray) : ByteArray := if beginsB s.toList h.toList = true then s.extract h.size s.size else s

set_option maxRecDepth 100000 in
set_option maxHeartbeats 1000000 in
theorem cut91_any (s h : ByteArray) (w : World) :
    Calls Try.prog 91 #[.string s, .string h] w fun r w' => r = .returned (.tuple #[.string (cutA s h), .bool (beginsB s.toList h.toList)]) ∧ w' = w := by
  have hc := prefix81_any s h w
  unfold cutA
  have hsz : beginsB s.toList h.toList = true → h.size ≤ s.size := beginsB_size
  cases hb : beginsB s.toList h.toList with
  | true =>
    rw [hb] at hc
    have hl := hsz hb
    clear hsz hb
    go_enter Try.func91, Try.ntmps91
    go_wp2_with (first
      | (go_at_call 81; refine hc.mono ?_; rintro r w2 ⟨rfl, hw2⟩; cases hw2)
      | go_in)
    go_ret2
    exact ⟨rfl, rfl⟩
  | false =>
    rw [hb] at hc
    clear hsz hb
    go_enter Try.func91, Try.ntmps91
    go_wp2_with (first
      | (go_at_call 81; refine hc.mono ?_; rintro r w2 ⟨rfl, hw2⟩; cases hw2)
      | go_in)
    go_ret2
    exact ⟨rfl, rfl⟩

set_option maxRecDepth 100000 in
set_option maxHeartbeats 1000000 in
theorem cut82_any (s h : ByteArray) (w : World) :
    Calls Try.prog 82 #[.string s, .string h] w fun r w' => r = .returned (.tuple #[.string (cutA s h), .bool (beginsB s.toList h.toList)]) ∧ w' = w := by
  have hc := cut91_any s h w
  go_enter Try.func82, Try.ntmps82
  go_wp2_with (first
    | (go_at_call 91; refine hc.mono ?_; rintro r w2 ⟨rfl, hw2⟩; cases hw2)
    | go_in)
  go_ret2
  exact ⟨rfl, rfl⟩

set_option maxRecDepth 100000 in
set_option maxHeartbeats 1000000 in
theorem over_zero (b n : Nat) (f : Value → Value) (k who m c : Int) (q : ByteArray) (d : Bool) (w : World) (h : MapV w 55 b n (.int .i64 0) f) (hx : KeyOk 55 (.agg #[.int .i64 k, .int .i64 who, .string q, .int .i64 m, .int .i64 c, .bool d])) (hf : f (.agg #[.int .i64 k, .int .i64 who, .string q, .int .i64 m, .int .i64 c, .bool d]) = .int .i64 0) :
    Calls Try.prog 38 #[.map (some b), .agg #[.int .i64 k, .int .i64 who, .string q, .int .i64 m, .int .i64 c, .bool d]] w fun r w' => r = .returned (.bool false) ∧ Below w.heap.size w w' := by
  have hl := fun o : Obj => (h.alloc o).look keyed55 Try.underlying61 (zero3 _) hx
  rw [hf] at hl
  have hlk := hl (.cells #[.int .i64 k, .int .i64 who, .string q, .int .i64 m, .int .i64 c, .bool d] 55 (0, 0))
  clear hl
  go_enter Try.func38, Try.ntmps38
  go_wp2
  go_ret
  exact ⟨rfl, (Below.refl _ _).alloc (Nat.le_refl _) _⟩

set_option maxRecDepth 100000 in
set_option maxHeartbeats 4000000 in
theorem over_some (b n : Nat) (f : Value → Value) (k who m c x : Int) (q : ByteArray) (d : Bool) (w : World) (h : MapV w 55 b n (.int .i64 0) f) (hn : n < maxLen) (hk : KeyOk 55 (.agg #[.int .i64 k, .int .i64 who, .string q, .int .i64 m, .int .i64 c, .bool d])) (hf : f (.agg #[.int .i64 k, .int .i64 who, .string q, .int .i64 m, .int .i64 c, .bool d]) = .int .i64 x) (hx0 : 0 < x) (hx1 : x ≤ 1000) :
    Calls Try.prog 38 #[.map (some b), .agg #[.int .i64 k, .int .i64 who, .string q, .int .i64 m, .int .i64 c, .bool d]] w fun r w' => r = .returned (.bool true) ∧ w.grownBy w' (some b) ∧
      ∀ f', f' (.agg #[.int .i64 k, .int .i64 who, .string q, .int .i64 m, .int .i64 c, .bool d]) = .int .i64 (x - 1) → (∀ y, y ≠ .agg #[.int .i64 k, .int .i64 who, .string q, .int .i64 m, .int .i64 c, .bool d] → f' y = f y) → MapV w' 55 b (n + 1) (.int .i64 0) f' := by
  have h' := (h.alloc (.cells #[.int .i64 k, .int .i64 who, .string q, .int .i64 m, .int .i64 c, .bool d] 55 (0, 0)))
  have hlk := h'.look keyed55 Try.underlying61 (zero3 _) hk
  rw [hf] at hlk
  obtain ⟨v0, st, w1, hme, hm1, hg1, hst⟩ := h'.drew.entry law55 Try.underlying61 zero3 hn hk
  have hlk1 := hm1.look keyed55 Try.underlying61 (zero3 _) hk
  rw [hf] at hlk1
  obtain ⟨w3, hes, hg3, hm3⟩ := hst w1 (.int .i64 (x - 1)) rfl
  have hlkd : (Instr.lookup 61 (.map (some b)) (.agg #[.int .i64 k, .int .i64 who, .string q, .int .i64 m, .int .i64 c, .bool d]) false).run Try.prog (w.alloc (.cells #[.int .i64 k, .int .i64 who, .string q, .int .i64 m, .int .i64 c, .bool d] 55 (0, 0))).drew = .ok (.int .i64 x) (w.alloc (.cells #[.int .i64 k, .int .i64 who, .string q, .int .i64 m, .int .i64 c, .bool d] 55 (0, 0))).drew := by
    have := h'.drew.look keyed55 Try.underlying61 (zero3 _) hk
    rwa [hf] at this
  have hes' : (Instr.entryStore 61 (.map (some b)) (.int .i64 st) (.int .i64 (x - 1))).run Try.prog w1 = .ok () w3 := hes
  clear h h' hst hm1 hes
  go_enter Try.func38, Try.ntmps38
  go_wp2
  go_region
  all_goals go_wp2
  all_goals go_ret
  all_goals exact ⟨rfl, (World.grownBy_alloc w _ _).trans ((Grow.drew _ _).trans (hg1.trans hg3)), hm3⟩

end Go.Proofs.Ytgincippgaecfaa.Au
