/-
  The closed facts of the row connNewsRow, part E: each a theorem of its own, since together they do not fit into one declaration. No condition.
-/
import Derived.Test.YtannnhopgdlapaaGreatDoorCeG
import Derived.Test.YtannnhopgdlapaaGreatDoorRows
import Derived.Test.YtannnhopgdlapaaGreatDoorChecked
import Derived.ProofKit
import Derived.JoinedOf
import Derived.SevenTiedAt
namespace Go.Proofs.YtannnhopgdlapaaGreatDoor.connNews
open Go.ChangeShapes Go.WideShapes Go.ChangeAt Go.RowKit
theorem fact_inPlaceK : (Rows.connNewsRow.inPlace == CE.inPlaceK Tryz.prog 3) = true := by kernel_rfl
theorem fact_inPlace : (Rows.connNewsRow.inPlace == Tryz.prog.inPlace 3) = true := by rw [← CE.inPlaceK_eq]; exact fact_inPlaceK
end Go.Proofs.YtannnhopgdlapaaGreatDoor.connNews
