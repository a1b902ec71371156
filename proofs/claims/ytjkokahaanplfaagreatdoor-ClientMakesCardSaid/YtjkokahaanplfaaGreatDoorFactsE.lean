/-
  The closed facts of the row clientMakesRow, part E: each a theorem of its own, since together they do not fit into one declaration. No condition.
-/
import Derived.Test.YtjkokahaanplfaaGreatDoorCeG
import Derived.Test.YtjkokahaanplfaaGreatDoorRows
import Derived.Test.YtjkokahaanplfaaGreatDoorChecked
import Derived.ProofKit
import Derived.JoinedOf
import Derived.SevenTiedAt
namespace Go.Proofs.YtjkokahaanplfaaGreatDoor.clientMakes
open Go.ChangeShapes Go.WideShapes Go.ChangeAt Go.RowKit
theorem fact_inPlaceK : (Rows.clientMakesRow.inPlace == CE.inPlaceK Tryz.prog 3) = true := by kernel_rfl
theorem fact_inPlace : (Rows.clientMakesRow.inPlace == Tryz.prog.inPlace 3) = true := by rw [← CE.inPlaceK_eq]; exact fact_inPlaceK
end Go.Proofs.YtjkokahaanplfaaGreatDoor.clientMakes
