/-
  same: two lists that are alike are told so. No condition but that the slices hold them.
-/
import Derived.Test.YtgincippgaecfaaL3
import Derived.Deep.QuietTactic
import Derived.BigQuiet
namespace Go.Proofs.Ytgincippgaecfaa.Au
open Go Go.RowKit

set_option maxRecDepth 100000 in
set_option maxHeartbeats 2000000 in
theorem same_some (g1 g2 c1 c2 : Nat) (l : List Int) (w : World) (h1 : ∀ (j : Nat) (x : Int), l[j]? = some x → w.cell? ⟨g1, j, none⟩ = some (.int .i64 x)) (h2 : ∀ (j : Nat) (x : Int), l[j]? = some x → w.cell? ⟨g2, j, none⟩ = some (.int .i64 x)) (hl : l.length ≤ 9000000000000000) :
    Calls Try.prog 15 #[.slice (some ⟨g1, 0, none⟩) l.length c1, .slice (some ⟨g2, 0, none⟩) l.length c2] w fun r w' => r = .returned (.bool true) ∧ ∃ q, w' = w.drewN q := by
  go_enter Try.func15, Try.ntmps15
  go_wp2
  go_loopw [5] (fun i wr => ∃ k : Nat, i = .int .i64 k ∧ k ≤ l.length ∧ ∃ q, wr = w.drewN q) (fun i _ => l.length - (intOf i).toNat)
  case atStart => exact ⟨0, rfl, Nat.zero_le _, 0, rfl⟩
  case round =>
    obtain ⟨k, rfl, hk, qq, rfl⟩ := hrel
    by_cases hlt : k < l.length
    · obtain ⟨x, hx⟩ : ∃ x, l[k]? = some x := ⟨_, List.getElem?_eq_getElem hlt⟩
      have d1 : (w.drewN qq).cell? ⟨g1, k, none⟩ = some (.int .i64 x) := h1 k x hx
      have d2 : (w.drewN qq).cell? ⟨g2, k, none⟩ = some (.int .i64 x) := h2 k x hx
      have e1 : w.cell? ⟨g1, k, none⟩ = some (.int .i64 x) := h1 k x hx
      have e2 : w.cell? ⟨g2, k, none⟩ = some (.int .i64 x) := h2 k x hx
      clear hx h1 h2
      go_wp2
      go_quiet (fail)
      go_wp2
      go_roundw
      case rel => exact ⟨k + 1, by go_num, by omega, _, rfl⟩
      case measure => simp [intOf]; omega
    · obtain rfl : k = l.length := by omega
      go_wp2
      go_ret
      exact ⟨rfl, _, rfl⟩

set_option maxHeartbeats 1000000 in
theorem same_empty (p1 p2 : Option Addr) (c1 c2 : Nat) (w : World) :
    Calls Try.prog 15 #[.slice p1 0 c1, .slice p2 0 c2] w fun r w' => r = .returned (.bool true) ∧ ∃ q, w' = w.drewN q := by
  go_enter Try.func15, Try.ntmps15
  go_wp2
  refine wp_loop_rounds 1 ?_
  rw [rounds_succ]
  go_wp2
  go_ret
  exact ⟨rfl, 0, rfl⟩

theorem same_any (b1 b2 : Nat) (v1 v2 : Value) (l : List Int) (w : World) (h1 : Ints b1 w v1 l) (h2 : Ints b2 w v2 l) (hl : l.length ≤ 9000000000000000) :
    Calls Try.prog 15 #[v1, v2] w fun r w' => r = .returned (.bool true) ∧ ∃ q, w' = w.drewN q := by
  rcases h1.cases with ⟨rfl, rfl⟩ | ⟨g1, c1, rfl, _, _, _, _, k1, _⟩
  · rcases h2.cases with ⟨rfl, _⟩ | ⟨g2, c2, rfl, _⟩
    · exact same_empty _ _ _ _ w
    · exact same_empty _ _ _ _ w
  · rcases h2.cases with ⟨rfl, rfl⟩ | ⟨g2, c2, rfl, _, _, _, _, k2, _⟩
    · exact same_empty _ _ _ _ w
    · exact same_some g1 g2 c1 c2 l w k1 k2 hl

end Go.Proofs.Ytgincippgaecfaa.Au
