/-
  The closed facts of the row performBlanksRow, part F: each a theorem of its own, since together they do not fit into one declaration. No condition.
-/
import Derived.Test.YtkdkmofgeofooaaGreatDoorCeG
import Derived.Test.YtkdkmofgeofooaaGreatDoorRows
import Derived.Test.YtkdkmofgeofooaaGreatDoorChecked
import Derived.ProofKit
import Derived.JoinedOf
import Derived.SevenTiedAt
namespace Go.Proofs.YtkdkmofgeofooaaGreatDoor.performBlanks
open Go.ChangeShapes Go.WideShapes Go.ChangeAt Go.RowKit
theorem fact_namedK : (Rows.performBlanksRow.named == CE.varsNamedK Tryz.prog 3) = true := by kernel_rfl
theorem fact_named : (Rows.performBlanksRow.named == Tryz.prog.varsNamed 3) = true := by rw [← CE.varsNamedK_eq]; exact fact_namedK
end Go.Proofs.YtkdkmofgeofooaaGreatDoor.performBlanks
