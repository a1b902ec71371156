/-
  The closed facts of the row termsSamesRow, part E: each a theorem of its own, since together they do not fit into one declaration. No condition.
-/
import Derived.Test.YtckggmcjcdkfhaaGreatDoorCeG
import Derived.Test.YtckggmcjcdkfhaaGreatDoorRows
import Derived.Test.YtckggmcjcdkfhaaGreatDoorChecked
import Derived.ProofKit
import Derived.JoinedOf
import Derived.SevenTiedAt
namespace Go.Proofs.YtckggmcjcdkfhaaGreatDoor.termsSames
open Go.ChangeShapes Go.WideShapes Go.ChangeAt Go.RowKit
theorem fact_inPlaceK : (Rows.termsSamesRow.inPlace == CE.inPlaceK Tryz.prog 3) = true := by kernel_rfl
theorem fact_inPlace : (Rows.termsSamesRow.inPlace == Tryz.prog.inPlace 3) = true := by rw [← CE.inPlaceK_eq]; exact fact_inPlaceK
end Go.Proofs.YtckggmcjcdkfhaaGreatDoor.termsSames
