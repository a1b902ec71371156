/-
  The closed facts of the row performBlanksRow, part E: each a theorem of its own, since together they do not fit into one declaration. No condition.
-/
import Derived.Test.YtkdkmofgeofooaaGreatDoorCeG
import Derived.Test.YtkdkmofgeofooaaGreatDoorRows
import Derived.Test.YtkdkmofgeofooaaGreatDoorChecked
import Derived.ProofKit
import Derived.JoinedOf
import Derived.SevenTiedAt
namespace Go.Proofs.YtkdkmofgeofooaaGreatDoor.performBlanks
open Go.ChangeShapes Go.WideShapes Go.ChangeAt Go.RowKit
theorem fact_inPlaceK : (Rows.performBlanksRow.inPlace == CE.inPlaceK Tryz.prog 3) = true := by kernel_rfl
theorem fact_inPlace : (Rows.performBlanksRow.inPlace == Tryz.prog.inPlace 3) = true := by rw [← CE.inPlaceK_eq]; exact fact_inPlaceK
end Go.Proofs.YtkdkmofgeofooaaGreatDoor.performBlanks
