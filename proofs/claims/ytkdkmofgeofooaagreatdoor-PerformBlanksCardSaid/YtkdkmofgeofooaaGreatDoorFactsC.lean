/-
  The closed facts of the row performBlanksRow, part C: each a theorem of its own, since together they do not fit into one declaration. No condition.
-/
import Derived.Test.YtkdkmofgeofooaaGreatDoorCeG
import Derived.Test.YtkdkmofgeofooaaGreatDoorRows
import Derived.Test.YtkdkmofgeofooaaGreatDoorChecked
import Derived.ProofKit
import Derived.JoinedOf
import Derived.SevenTiedAt
namespace Go.Proofs.YtkdkmofgeofooaaGreatDoor.performBlanks
open Go.ChangeShapes Go.WideShapes Go.ChangeAt Go.RowKit
theorem fact_funcNK : CE.funcNamedK Tryz.prog "longshore/longshorelaw09.PerformBlanks" = some 3 := by kernel_rfl
theorem fact_funcN : Tryz.prog.funcNamed "longshore/longshorelaw09.PerformBlanks" = some 3 := by rw [← CE.funcNamedK_eq]; exact fact_funcNK
theorem fact_enter : Tryz.prog.mayEnter = true := by kernel_rfl
end Go.Proofs.YtkdkmofgeofooaaGreatDoor.performBlanks
