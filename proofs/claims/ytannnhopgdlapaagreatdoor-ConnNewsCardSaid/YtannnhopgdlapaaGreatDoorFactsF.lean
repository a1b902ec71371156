/-
  The closed facts of the row connNewsRow, part F: each a theorem of its own, since together they do not fit into one declaration. No condition.
-/
import Derived.Test.YtannnhopgdlapaaGreatDoorCeG
import Derived.Test.YtannnhopgdlapaaGreatDoorRows
import Derived.Test.YtannnhopgdlapaaGreatDoorChecked
import Derived.ProofKit
import Derived.JoinedOf
import Derived.SevenTiedAt
namespace Go.Proofs.YtannnhopgdlapaaGreatDoor.connNews
open Go.ChangeShapes Go.WideShapes Go.ChangeAt Go.RowKit
theorem fact_namedK : (Rows.connNewsRow.named == CE.varsNamedK Tryz.prog 3) = true := by kernel_rfl
theorem fact_named : (Rows.connNewsRow.named == Tryz.prog.varsNamed 3) = true := by rw [← CE.varsNamedK_eq]; exact fact_namedK
end Go.Proofs.YtannnhopgdlapaaGreatDoor.connNews
