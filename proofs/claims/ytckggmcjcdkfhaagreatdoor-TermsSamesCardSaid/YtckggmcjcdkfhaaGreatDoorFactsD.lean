/-
  The closed facts of the row termsSamesRow, part D: each a theorem of its own, since together they do not fit into one declaration. No condition.
-/
import Derived.Test.YtckggmcjcdkfhaaGreatDoorCeG
import Derived.Test.YtckggmcjcdkfhaaGreatDoorRows
import Derived.Test.YtckggmcjcdkfhaaGreatDoorChecked
import Derived.ProofKit
import Derived.JoinedOf
import Derived.SevenTiedAt
namespace Go.Proofs.YtckggmcjcdkfhaaGreatDoor.termsSames
open Go.ChangeShapes Go.WideShapes Go.ChangeAt Go.RowKit
theorem fact_unfK : CE.unfollowedK Tryz.prog 3 = true := by kernel_rfl
theorem fact_unf : (Rows.termsSamesRow.unfollowed == Tryz.prog.unfollowed 3) = true := by rw [← CE.unfollowedK_eq, fact_unfK]; rfl
theorem fact_recuK : CE.unfollowedK Tryz.prog 3 = true := by kernel_rfl
theorem fact_recu : (Rows.termsSamesRow.recurses == Tryz.prog.recurses 3) = true := by rw [CE.recurses_of _ fact_recuK]; rfl
end Go.Proofs.YtckggmcjcdkfhaaGreatDoor.termsSames
