/-
  The closed facts of the row connNumbersRow, part H: each a theorem of its own, since together they do not fit into one declaration. No condition.
-/
import Derived.Test.YtpeacofifmaofaaGreatDoorRows
import Derived.Test.YtpeacofifmaofaaGreatDoorChecked
import Derived.ProofKit
import Derived.JoinedOf
import Derived.SevenTiedAt
namespace Go.Proofs.YtpeacofifmaofaaGreatDoor.connNumbers
open Go.ChangeShapes Go.WideShapes Go.ChangeAt Go.RowKit
theorem fact_named : (Rows.connNumbersRow.named == Tryz.prog.varsNamed 3) = true := by kernel_rfl
end Go.Proofs.YtpeacofifmaofaaGreatDoor.connNumbers
