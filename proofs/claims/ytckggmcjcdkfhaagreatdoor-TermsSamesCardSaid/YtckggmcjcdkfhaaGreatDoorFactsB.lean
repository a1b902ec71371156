/-
  The closed facts of the row termsSamesRow, part B: each a theorem of its own, since together they do not fit into one declaration. No condition.
-/
import Derived.Test.YtckggmcjcdkfhaaGreatDoorCeG
import Derived.Test.YtckggmcjcdkfhaaGreatDoorRows
import Derived.Test.YtckggmcjcdkfhaaGreatDoorChecked
import Derived.ProofKit
import Derived.JoinedOf
import Derived.SevenTiedAt
namespace Go.Proofs.YtckggmcjcdkfhaaGreatDoor.termsSames
open Go.ChangeShapes Go.WideShapes Go.ChangeAt Go.RowKit
theorem fact_heardK : CE.stopsHeardK Tryz.prog = true := by kernel_rfl
theorem fact_heard : Tryz.prog.stopsHeard = true := by rw [← CE.stopsHeardK_eq]; exact fact_heardK
theorem fact_mapsRowedK : CE.mapsRowedK Tryz.prog = true := by kernel_rfl
theorem fact_mapsRowed : mapsRowed Tryz.prog = true := by rw [← CE.mapsRowedK_eq]; exact fact_mapsRowedK
theorem fact_plainKK : (Rows.termsSamesRow.plainKeys == CE.plainKeysK Tryz.prog) = true := by kernel_rfl
theorem fact_plainK : (Rows.termsSamesRow.plainKeys == Tryz.prog.plainKeys) = true := by rw [← CE.plainKeysK_eq]; exact fact_plainKK
theorem fact_laidOutK : CE.laidOutK Tryz.prog = true := by kernel_rfl
theorem fact_laidOut : laidOutB Tryz.prog = true := by rw [← CE.laidOutK_eq]; exact fact_laidOutK
end Go.Proofs.YtckggmcjcdkfhaaGreatDoor.termsSames
