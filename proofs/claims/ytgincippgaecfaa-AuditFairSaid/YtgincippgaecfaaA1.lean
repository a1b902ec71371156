/-
  The chapter's first examples (awake) come to true: one evaluation of the closed call. No condition.
-/
import Derived.Test.YtgincippgaecfaaProg
import Derived.Test.YtgincippgaecfaaCeG
import Derived.KernelRfl
namespace Go.Proofs.Ytgincippgaecfaa.Aw
open Go Go.RowKit
theorem mixed : Try.prog.follows .mixedOrders = true := by kernel_rfl
theorem noCount : CE.NoCount Try.prog := CE.noCount_list (by kernel_rfl)
noncomputable def whole : CE.MemoE := { f := 8, args := [], glob := [], val := .bool true }
theorem evaluated : whole.says Try.prog 1 1000000 [] = true := by kernel_rfl
theorem whole_ok : CE.MemoOk Try.prog 1 whole := CE.memo_ok mixed noCount (CE.memo_none _ _) evaluated
theorem awake {W : World} : Calls Try.prog 8 #[] W fun e w' => e = .returned (.bool true) ∧ Below W.heap.size W w' := CE.calls_entry whole_ok (CE.lies_none _ _)
end Go.Proofs.Ytgincippgaecfaa.Aw
