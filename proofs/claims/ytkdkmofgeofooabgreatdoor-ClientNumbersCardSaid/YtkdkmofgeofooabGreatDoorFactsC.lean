/-
  The closed facts of the row clientNumbersRow, part C: each a theorem of its own, since together they do not fit into one declaration. No condition.
-/
import Derived.Test.YtkdkmofgeofooabGreatDoorCeG
import Derived.Test.YtkdkmofgeofooabGreatDoorRows
import Derived.Test.YtkdkmofgeofooabGreatDoorChecked
import Derived.ProofKit
import Derived.JoinedOf
import Derived.SevenTiedAt
namespace Go.Proofs.YtkdkmofgeofooabGreatDoor.clientNumbers
open Go.ChangeShapes Go.WideShapes Go.ChangeAt Go.RowKit
theorem fact_funcNK : CE.funcNamedK Tryz.prog "longshore/longshorelaw25.ClientNumbers" = some 3 := by kernel_rfl
theorem fact_funcN : Tryz.prog.funcNamed "longshore/longshorelaw25.ClientNumbers" = some 3 := by rw [← CE.funcNamedK_eq]; exact fact_funcNK
theorem fact_enter : Tryz.prog.mayEnter = true := by kernel_rfl
end Go.Proofs.YtkdkmofgeofooabGreatDoor.clientNumbers
