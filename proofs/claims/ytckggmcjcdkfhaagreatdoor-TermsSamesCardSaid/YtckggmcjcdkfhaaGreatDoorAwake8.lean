/-
  CE: the call of longshore/longshorelaw08.awake, evaluated. Condition: the package-level table strings.asciiSpace as the program's text lays it (the entry bears it).
-/
import Derived.Test.YtckggmcjcdkfhaaGreatDoorProg
import Derived.Test.YtckggmcjcdkfhaaGreatDoorCeH
import Derived.Lib.Space
import Derived.KernelRfl
namespace Go.Proofs.YtckggmcjcdkfhaaGreatDoor.Aw
open Go
noncomputable def spaces : List (Nat × List Value) := [(2, Lib.asciiSpaceTab.map fun z => Value.int .u8 z)]
theorem mixed : Tryz.prog.follows .mixedOrders = true := by kernel_rfl
theorem noCount : CE.NoCount Tryz.prog := CE.noCount_of (by kernel_rfl)
noncomputable def awakeE : CE.MemoE := { f := 9, args := [], glob := spaces, val := .bool true }
theorem awake_says : awakeE.says Tryz.prog 7 1000000 [] = true := by kernel_rfl
theorem awake_ok : CE.MemoOk Tryz.prog 7 awakeE := CE.memo_ok mixed noCount (CE.memo_none _ _) awake_says
end Go.Proofs.YtckggmcjcdkfhaaGreatDoor.Aw
