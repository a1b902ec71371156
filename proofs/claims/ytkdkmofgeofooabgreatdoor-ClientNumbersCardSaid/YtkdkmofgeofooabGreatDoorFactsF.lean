/-
  The closed facts of the row clientNumbersRow, part F: each a theorem of its own, since together they do not fit into one declaration. No condition.
-/
import Derived.Test.YtkdkmofgeofooabGreatDoorCeG
import Derived.Test.YtkdkmofgeofooabGreatDoorRows
import Derived.Test.YtkdkmofgeofooabGreatDoorChecked
import Derived.ProofKit
import Derived.JoinedOf
import Derived.SevenTiedAt
namespace Go.Proofs.YtkdkmofgeofooabGreatDoor.clientNumbers
open Go.ChangeShapes Go.WideShapes Go.ChangeAt Go.RowKit
theorem fact_namedK : (Rows.clientNumbersRow.named == CE.varsNamedK Tryz.prog 3) = true := by kernel_rfl
theorem fact_named : (Rows.clientNumbersRow.named == Tryz.prog.varsNamed 3) = true := by rw [← CE.varsNamedK_eq]; exact fact_namedK
end Go.Proofs.YtkdkmofgeofooabGreatDoor.clientNumbers
