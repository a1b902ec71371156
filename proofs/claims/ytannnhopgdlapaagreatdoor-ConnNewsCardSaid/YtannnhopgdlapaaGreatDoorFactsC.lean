/-
  The closed facts of the row connNewsRow, part C: each a theorem of its own, since together they do not fit into one declaration. No condition.
-/
import Derived.Test.YtannnhopgdlapaaGreatDoorCeG
import Derived.Test.YtannnhopgdlapaaGreatDoorRows
import Derived.Test.YtannnhopgdlapaaGreatDoorChecked
import Derived.ProofKit
import Derived.JoinedOf
import Derived.SevenTiedAt
namespace Go.Proofs.YtannnhopgdlapaaGreatDoor.connNews
open Go.ChangeShapes Go.WideShapes Go.ChangeAt Go.RowKit
theorem fact_funcNK : CE.funcNamedK Tryz.prog "longshore/longshorelaw15.ConnNews" = some 3 := by kernel_rfl
theorem fact_funcN : Tryz.prog.funcNamed "longshore/longshorelaw15.ConnNews" = some 3 := by rw [← CE.funcNamedK_eq]; exact fact_funcNK
theorem fact_enterK : CE.mayEnterK Tryz.prog = true := by kernel_rfl
theorem fact_enter : Tryz.prog.mayEnter = true := by rw [← CE.mayEnterK_eq]; exact fact_enterK
end Go.Proofs.YtannnhopgdlapaaGreatDoor.connNews
