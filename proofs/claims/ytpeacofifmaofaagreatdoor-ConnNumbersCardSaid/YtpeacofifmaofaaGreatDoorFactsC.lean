/-
  The closed facts of the row connNumbersRow, part C: each a theorem of its own, since together they do not fit into one declaration. No condition.
-/
import Derived.Test.YtpeacofifmaofaaGreatDoorRows
import Derived.Test.YtpeacofifmaofaaGreatDoorChecked
import Derived.ProofKit
import Derived.JoinedOf
import Derived.SevenTiedAt
namespace Go.Proofs.YtpeacofifmaofaaGreatDoor.connNumbers
open Go.ChangeShapes Go.WideShapes Go.ChangeAt Go.RowKit
theorem fact_funcN : Tryz.prog.funcNamed "longshore/longshorelaw15.ConnNumbers" = some 3 := by kernel_rfl
theorem fact_enter : Tryz.prog.mayEnter = true := by kernel_rfl
end Go.Proofs.YtpeacofifmaofaaGreatDoor.connNumbers
