/-
  The closed facts of the row clientNumbersRow, part E: each a theorem of its own, since together they do not fit into one declaration. No condition.
-/
import Derived.Test.YtkdkmofgeofooabGreatDoorCeG
import Derived.Test.YtkdkmofgeofooabGreatDoorRows
import Derived.Test.YtkdkmofgeofooabGreatDoorChecked
import Derived.ProofKit
import Derived.JoinedOf
import Derived.SevenTiedAt
namespace Go.Proofs.YtkdkmofgeofooabGreatDoor.clientNumbers
open Go.ChangeShapes Go.WideShapes Go.ChangeAt Go.RowKit
theorem fact_inPlaceK : (Rows.clientNumbersRow.inPlace == CE.inPlaceK Tryz.prog 3) = true := by kernel_rfl
theorem fact_inPlace : (Rows.clientNumbersRow.inPlace == Tryz.prog.inPlace 3) = true := by rw [← CE.inPlaceK_eq]; exact fact_inPlaceK
end Go.Proofs.YtkdkmofgeofooabGreatDoor.clientNumbers
