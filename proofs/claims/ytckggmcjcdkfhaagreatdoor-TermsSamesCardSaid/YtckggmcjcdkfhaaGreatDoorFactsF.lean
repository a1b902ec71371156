/-
  The closed facts of the row termsSamesRow, part F: each a theorem of its own, since together they do not fit into one declaration. No condition.
-/
import Derived.Test.YtckggmcjcdkfhaaGreatDoorCeG
import Derived.Test.YtckggmcjcdkfhaaGreatDoorRows
import Derived.Test.YtckggmcjcdkfhaaGreatDoorChecked
import Derived.ProofKit
import Derived.JoinedOf
import Derived.SevenTiedAt
namespace Go.Proofs.YtckggmcjcdkfhaaGreatDoor.termsSames
open Go.ChangeShapes Go.WideShapes Go.ChangeAt Go.RowKit
theorem fact_namedK : (Rows.termsSamesRow.named == CE.varsNamedK Tryz.prog 3) = true := by kernel_rfl
theorem fact_named : (Rows.termsSamesRow.named == Tryz.prog.varsNamed 3) = true := by rw [← CE.varsNamedK_eq]; exact fact_namedK
end Go.Proofs.YtckggmcjcdkfhaaGreatDoor.termsSames
