/-
  The closed facts of the row termsSamesRow, part C: each a theorem of its own, since together they do not fit into one declaration. No condition.
-/
import Derived.Test.YtckggmcjcdkfhaaGreatDoorCeG
import Derived.Test.YtckggmcjcdkfhaaGreatDoorRows
import Derived.Test.YtckggmcjcdkfhaaGreatDoorChecked
import Derived.ProofKit
import Derived.JoinedOf
import Derived.SevenTiedAt
namespace Go.Proofs.YtckggmcjcdkfhaaGreatDoor.termsSames
open Go.ChangeShapes Go.WideShapes Go.ChangeAt Go.RowKit
theorem fact_funcNK : CE.funcNamedK Tryz.prog "longshore/longshorelaw08.TermsSames" = some 3 := by kernel_rfl
theorem fact_funcN : Tryz.prog.funcNamed "longshore/longshorelaw08.TermsSames" = some 3 := by rw [← CE.funcNamedK_eq]; exact fact_funcNK
theorem fact_enterK : CE.mayEnterK Tryz.prog = true := by kernel_rfl
theorem fact_enter : Tryz.prog.mayEnter = true := by rw [← CE.mayEnterK_eq]; exact fact_enterK
end Go.Proofs.YtckggmcjcdkfhaaGreatDoor.termsSames
