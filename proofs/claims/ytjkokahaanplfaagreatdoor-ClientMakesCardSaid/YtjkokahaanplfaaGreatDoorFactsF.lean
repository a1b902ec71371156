/-
  The closed facts of the row clientMakesRow, part F: each a theorem of its own, since together they do not fit into one declaration. No condition.
-/
import Derived.Test.YtjkokahaanplfaaGreatDoorCeG
import Derived.Test.YtjkokahaanplfaaGreatDoorRows
import Derived.Test.YtjkokahaanplfaaGreatDoorChecked
import Derived.ProofKit
import Derived.JoinedOf
import Derived.SevenTiedAt
namespace Go.Proofs.YtjkokahaanplfaaGreatDoor.clientMakes
open Go.ChangeShapes Go.WideShapes Go.ChangeAt Go.RowKit
theorem fact_namedK : (Rows.clientMakesRow.named == CE.varsNamedK Tryz.prog 3) = true := by kernel_rfl
theorem fact_named : (Rows.clientMakesRow.named == Tryz.prog.varsNamed 3) = true := by rw [← CE.varsNamedK_eq]; exact fact_namedK
end Go.Proofs.YtjkokahaanplfaaGreatDoor.clientMakes
