/-
  CE: the call of longshore/longshorelaw25.ClientNumbers, evaluated; it reads no package-level variable. No condition.
-/
import Derived.Test.YtkdkmofgeofooabGreatDoorProg
import Derived.Test.YtkdkmofgeofooabGreatDoorCeG
import Derived.KernelRfl
namespace Go.Proofs.YtkdkmofgeofooabGreatDoor.clientNumbers
theorem mixed : Tryz.prog.follows .mixedOrders = true := by kernel_rfl
theorem noCount : CE.NoCount Tryz.prog := CE.noCount_of (by kernel_rfl)
noncomputable def whole : CE.MemoE := { f := 3, args := [], glob := [], val := .bool true }
theorem evaluated : whole.says Tryz.prog 10 1000000 [] = true := by kernel_rfl
theorem whole_ok : CE.MemoOk Tryz.prog 10 whole := CE.memo_ok mixed noCount (CE.memo_none _ _) evaluated
end Go.Proofs.YtkdkmofgeofooabGreatDoor.clientNumbers
