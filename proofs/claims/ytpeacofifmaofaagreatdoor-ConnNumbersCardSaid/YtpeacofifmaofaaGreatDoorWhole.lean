/-
  CE: the call of longshore/longshorelaw15.ConnNumbers, evaluated; the calls of shape.Name with 16 are taken from their own evaluation. Condition: the package-level table strings.asciiSpace as the program's text lays it (the entry bears it).
-/
import Derived.Test.YtpeacofifmaofaaGreatDoorName
namespace Go.Proofs.YtpeacofifmaofaaGreatDoor.connNumbers
noncomputable def whole : CE.MemoE := { f := 3, args := [], glob := spaces, val := .bool true }
theorem evaluated : whole.says Tryz.prog 7 1000000 [name16] = true := by kernel_rfl
theorem whole_ok : CE.MemoOk Tryz.prog 7 whole := CE.memo_ok mixed noCount (CE.memo_one name16_ok) evaluated
end Go.Proofs.YtpeacofifmaofaaGreatDoor.connNumbers
