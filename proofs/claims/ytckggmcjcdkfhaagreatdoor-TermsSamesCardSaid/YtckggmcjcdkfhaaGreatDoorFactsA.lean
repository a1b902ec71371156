/-
  The closed facts of the row termsSamesRow, part A: each a theorem of its own, since together they do not fit into one declaration. No condition.
-/
import Derived.Test.YtckggmcjcdkfhaaGreatDoorCeG
import Derived.Test.YtckggmcjcdkfhaaGreatDoorRows
import Derived.Test.YtckggmcjcdkfhaaGreatDoorChecked
import Derived.ProofKit
import Derived.JoinedOf
import Derived.SevenTiedAt
namespace Go.Proofs.YtckggmcjcdkfhaaGreatDoor.termsSames
open Go.ChangeShapes Go.WideShapes Go.ChangeAt Go.RowKit
theorem fact_wf : Rows.termsSamesRow.wf (OpenSpec.ofChange Rows.termsSamesSpec) = true := by kernel_rfl
theorem fact_paramsR : Tryz.f3.params.all (Tryz.prog.readableRec ·) = true := by kernel_rfl
theorem fact_namedT : namedTie Tryz.prog Rows.termsSamesRow.named Rows.termsSamesSpec.vars = true := by kernel_rfl
theorem fact_stops1 : (Rows.termsSamesRow.stops == []) = true := by kernel_rfl
theorem fact_stops2 : (Tryz.prog.stops == []) = true := by kernel_rfl
theorem fact_knobs1 : (Rows.termsSamesRow.knobs == []) = true := by kernel_rfl
theorem fact_knobs2 : (Tryz.prog.stopKnobs == []) = true := by kernel_rfl
theorem fact_maps : (Rows.termsSamesRow.maps == (Tryz.f3.params.toList ++ Rows.termsSamesSpec.plain.varTypes Tryz.prog).any (Tryz.prog.mapsRec ·)) = true := by kernel_rfl
theorem fact_ifaces : (Rows.termsSamesRow.ifaces == (Tryz.f3.params.toList ++ Rows.termsSamesSpec.plain.varTypes Tryz.prog).any (Tryz.prog.ifacesRec ·)) = true := by kernel_rfl
theorem fact_mapsOut : (Rows.termsSamesRow.mapsOut == Tryz.prog.mapsAmong Tryz.f3.resultTypes.toList) = true := by kernel_rfl
theorem fact_loops : (Rows.termsSamesRow.loops == (Tryz.f3.params.toList ++ Rows.termsSamesSpec.plain.varTypes Tryz.prog).any (Tryz.prog.loopsFrom ·)) = true := by kernel_rfl
theorem fact_wideK : (Rows.termsSamesRow.wideKeys == (Tryz.f3.params.toList ++ Rows.termsSamesSpec.plain.varTypes Tryz.prog ++ Tryz.f3.resultTypes.toList).any (Tryz.prog.wideKeysFrom ·)) = true := by kernel_rfl
theorem fact_varsR : Rows.termsSamesSpec.vars.all (Tryz.prog.varReadable ·) = true := by kernel_rfl
theorem fact_resR : Tryz.f3.resultTypes.all (fun t => Tryz.prog.readableRec t && decide (t < Tryz.prog.types.size)) = true := by kernel_rfl
theorem fact_ifacesOut : (Rows.termsSamesRow.ifacesOut == Tryz.f3.resultTypes.toList.any (Tryz.prog.ifacesRec ·)) = true := by kernel_rfl
theorem fact_loopsOut : (Rows.termsSamesRow.loopsOut == Tryz.f3.resultTypes.toList.any (Tryz.prog.loopsFrom ·)) = true := by kernel_rfl
theorem fact_short : Rows.termsSamesRow.shortTexts.isNone = true := by kernel_rfl
theorem fact_lifts : (Rows.termsSamesRow.lifted == Tryz.prog.liftsFinal) = true := by kernel_rfl
theorem fact_make : (Tryz.prog.make == some Rows.termsSamesRow.make) = true := by kernel_rfl
theorem fact_kinds : (Rows.termsSamesRow.kinds == (if Rows.termsSamesRow.domain.isEmpty then [] else Tryz.f3.params.toList.map fun t => match Tryz.prog.underlying t with | some (.int k) => some k | _ => none)) = true := by kernel_rfl
theorem fact_pinned : (Rows.termsSamesRow.pinned == Rows.termsSamesRow.pinnedBy) = true := by kernel_rfl
theorem fact_veiled : (Rows.termsSamesRow.veiled == (Tryz.f3.params.toList ++ Rows.termsSamesSpec.plain.varTypes Tryz.prog ++ Tryz.f3.resultTypes.toList).any (Tryz.prog.veiledRec ·)) = true := by kernel_rfl
theorem fact_veiledF : Rows.termsSamesRow.veiledFits Tryz.prog Tryz.f3.params.toList (Tryz.f3.params.toList ++ Rows.termsSamesSpec.plain.varTypes Tryz.prog ++ Tryz.f3.resultTypes.toList) = true := by kernel_rfl
theorem fact_wfText : Rows.termsSamesRow.wfByText (OpenSpec.ofChange Rows.termsSamesSpec) = true := by kernel_rfl
theorem fact_looks : false = Tryz.prog.looks [] := by kernel_rfl
theorem fact_mainIs : Tryz.prog.mainIs = some (true, "99476d3f86d5d4fa648dc4626ad995d0ea182bc2f85a1dedf7cf379cb3c4c034".toList) := by kernel_rfl
theorem fact_own : ownKnob Tryz.prog.godebug = none := by kernel_rfl
theorem none_goes : Tryz.prog.funcs.toList.any Func.goes = false := by kernel_rfl
theorem fact_goes : false = Rows.termsSamesRow.goesBy Tryz.prog := CE.goes_no none_goes rfl
theorem fact_inst : decide (Tryz.f3.isInstance Tryz.prog Rows.termsSamesRow.origin Rows.termsSamesRow.targs) = true := by kernel_rfl
end Go.Proofs.YtckggmcjcdkfhaaGreatDoor.termsSames
