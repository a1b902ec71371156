/-
  CE: the call of longshore/longshorelaw09.awake, evaluated once: an entry of the table. Condition: the package-level table strings.asciiSpace as the program's text lays it (the entry bears it).
-/
import Derived.Test.YtkdkmofgeofooaaGreatDoorProg
import Derived.Test.YtkdkmofgeofooaaGreatDoorCeG
import Derived.Lib.Space
import Derived.KernelRfl
namespace Go.Proofs.YtkdkmofgeofooaaGreatDoor.performBlanks
noncomputable def spaces : List (Nat × List Value) := [(0, Lib.asciiSpaceTab.map fun z => Value.int .u8 z)]
noncomputable def awakeE : CE.MemoE := { f := 4, args := [], glob := spaces, val := .bool true }
theorem mixed : Tryz.prog.follows .mixedOrders = true := by kernel_rfl
theorem noCount : CE.NoCount Tryz.prog := CE.noCount_of (by kernel_rfl)
theorem awake_says : awakeE.says Tryz.prog 7 1000000 [] = true := by kernel_rfl
theorem awake_ok : CE.MemoOk Tryz.prog 7 awakeE := CE.memo_ok mixed noCount (CE.memo_none _ _) awake_says
noncomputable def blanks (k : Int) : CE.MemoE := { f := 3, args := [.int .i64 k], glob := spaces, val := .bool true }
end Go.Proofs.YtkdkmofgeofooaaGreatDoor.performBlanks
