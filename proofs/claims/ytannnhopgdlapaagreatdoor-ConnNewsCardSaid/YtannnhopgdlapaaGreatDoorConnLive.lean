/-
  CE: the call of longshore/longshorelaw15.live, evaluated; the calls of shape.Name with 16 are taken from their own evaluation. Condition: the package-level table strings.asciiSpace as the program's text lays it (the entry bears it).
-/
import Derived.Test.YtannnhopgdlapaaGreatDoorName16
namespace Go.Proofs.YtannnhopgdlapaaGreatDoor.Lv
open Go
noncomputable def liveE : CE.MemoE := { f := 4, args := [], glob := spaces, val := .bool true }
theorem live_says : liveE.says Tryz.prog 7 1000000 [name16] = true := by kernel_rfl
theorem live_ok : CE.MemoOk Tryz.prog 7 liveE := CE.memo_ok mixed noCount (CE.memo_one name16_ok) live_says
end Go.Proofs.YtannnhopgdlapaaGreatDoor.Lv
