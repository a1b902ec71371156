/-
  CE: the call of longshore/shape.Name with the number 16, evaluated once: an entry of the table. Condition: the package-level table strings.asciiSpace as the program's text lays it (the entry bears it).
-/
import Derived.Test.YtannnhopgdlapaaGreatDoorProg
import Derived.Test.YtannnhopgdlapaaGreatDoorCeH
import Derived.Lib.Space
import Derived.KernelRfl
namespace Go.Proofs.YtannnhopgdlapaaGreatDoor.Lv
open Go
noncomputable def spaces : List (Nat × List Value) := [(3, Lib.asciiSpaceTab.map fun z => Value.int .u8 z)]
noncomputable def name16 : CE.MemoE := { f := 199, args := [.int .i64 16], glob := spaces, val := .string "longshore:open:list".toUTF8 }
theorem mixed : Tryz.prog.follows .mixedOrders = true := by kernel_rfl
theorem noCount : CE.NoCount Tryz.prog := CE.noCount_of (by kernel_rfl)
theorem name16_says : name16.says Tryz.prog 7 1000000 [] = true := by kernel_rfl
theorem name16_ok : CE.MemoOk Tryz.prog 7 name16 := CE.memo_ok mixed noCount (CE.memo_none _ _) name16_says
end Go.Proofs.YtannnhopgdlapaaGreatDoor.Lv
