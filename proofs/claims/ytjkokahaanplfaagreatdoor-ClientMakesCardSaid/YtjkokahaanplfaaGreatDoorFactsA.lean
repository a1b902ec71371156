/-
  The closed facts of the row clientMakesRow, part A: each a theorem of its own, since together they do not fit into one declaration. No condition.
-/
import Derived.Test.YtjkokahaanplfaaGreatDoorCeG
import Derived.Test.YtjkokahaanplfaaGreatDoorRows
import Derived.Test.YtjkokahaanplfaaGreatDoorChecked
import Derived.ProofKit
import Derived.JoinedOf
import Derived.SevenTiedAt
namespace Go.Proofs.YtjkokahaanplfaaGreatDoor.clientMakes
open Go.ChangeShapes Go.WideShapes Go.ChangeAt Go.RowKit
theorem fact_wf : Rows.clientMakesRow.wf (OpenSpec.ofChange Rows.clientMakesSpec) = true := by kernel_rfl
theorem fact_paramsR : Tryz.f3.params.all (Tryz.prog.readableRec ·) = true := by kernel_rfl
theorem fact_namedT : namedTie Tryz.prog Rows.clientMakesRow.named Rows.clientMakesSpec.vars = true := by kernel_rfl
theorem fact_stops1 : (Rows.clientMakesRow.stops == []) = true := by kernel_rfl
theorem fact_stops2 : (Tryz.prog.stops == []) = true := by kernel_rfl
theorem fact_knobs1 : (Rows.clientMakesRow.knobs == []) = true := by kernel_rfl
theorem fact_knobs2 : (Tryz.prog.stopKnobs == []) = true := by kernel_rfl
theorem fact_maps : (Rows.clientMakesRow.maps == (Tryz.f3.params.toList ++ Rows.clientMakesSpec.plain.varTypes Tryz.prog).any (Tryz.prog.mapsRec ·)) = true := by kernel_rfl
theorem fact_ifaces : (Rows.clientMakesRow.ifaces == (Tryz.f3.params.toList ++ Rows.clientMakesSpec.plain.varTypes Tryz.prog).any (Tryz.prog.ifacesRec ·)) = true := by kernel_rfl
theorem fact_mapsOut : (Rows.clientMakesRow.mapsOut == Tryz.prog.mapsAmong Tryz.f3.resultTypes.toList) = true := by kernel_rfl
theorem fact_loops : (Rows.clientMakesRow.loops == (Tryz.f3.params.toList ++ Rows.clientMakesSpec.plain.varTypes Tryz.prog).any (Tryz.prog.loopsFrom ·)) = true := by kernel_rfl
theorem fact_wideK : (Rows.clientMakesRow.wideKeys == (Tryz.f3.params.toList ++ Rows.clientMakesSpec.plain.varTypes Tryz.prog ++ Tryz.f3.resultTypes.toList).any (Tryz.prog.wideKeysFrom ·)) = true := by kernel_rfl
theorem fact_varsR : Rows.clientMakesSpec.vars.all (Tryz.prog.varReadable ·) = true := by kernel_rfl
theorem fact_resR : Tryz.f3.resultTypes.all (fun t => Tryz.prog.readableRec t && decide (t < Tryz.prog.types.size)) = true := by kernel_rfl
theorem fact_ifacesOut : (Rows.clientMakesRow.ifacesOut == Tryz.f3.resultTypes.toList.any (Tryz.prog.ifacesRec ·)) = true := by kernel_rfl
theorem fact_loopsOut : (Rows.clientMakesRow.loopsOut == Tryz.f3.resultTypes.toList.any (Tryz.prog.loopsFrom ·)) = true := by kernel_rfl
theorem fact_short : Rows.clientMakesRow.shortTexts.isNone = true := by kernel_rfl
theorem fact_lifts : (Rows.clientMakesRow.lifted == Tryz.prog.liftsFinal) = true := by kernel_rfl
theorem fact_make : (Tryz.prog.make == some Rows.clientMakesRow.make) = true := by kernel_rfl
theorem fact_kinds : (Rows.clientMakesRow.kinds == (if Rows.clientMakesRow.domain.isEmpty then [] else Tryz.f3.params.toList.map fun t => match Tryz.prog.underlying t with | some (.int k) => some k | _ => none)) = true := by kernel_rfl
theorem fact_pinned : (Rows.clientMakesRow.pinned == Rows.clientMakesRow.pinnedBy) = true := by kernel_rfl
theorem fact_veiled : (Rows.clientMakesRow.veiled == (Tryz.f3.params.toList ++ Rows.clientMakesSpec.plain.varTypes Tryz.prog ++ Tryz.f3.resultTypes.toList).any (Tryz.prog.veiledRec ·)) = true := by kernel_rfl
theorem fact_veiledF : Rows.clientMakesRow.veiledFits Tryz.prog Tryz.f3.params.toList (Tryz.f3.params.toList ++ Rows.clientMakesSpec.plain.varTypes Tryz.prog ++ Tryz.f3.resultTypes.toList) = true := by kernel_rfl
theorem fact_wfText : Rows.clientMakesRow.wfByText (OpenSpec.ofChange Rows.clientMakesSpec) = true := by kernel_rfl
theorem fact_looks : false = Tryz.prog.looks [] := by kernel_rfl
theorem fact_mainIs : Tryz.prog.mainIs = some (true, "b6f04d21feb230e881d6547c0dbf9e3f36c15e4b0e0b036058d6475212516f0f".toList) := by kernel_rfl
theorem fact_own : ownKnob Tryz.prog.godebug = none := by kernel_rfl
theorem none_goes : Tryz.prog.funcs.toList.any Func.goes = false := by kernel_rfl
theorem fact_goes : false = Rows.clientMakesRow.goesBy Tryz.prog := CE.goes_no none_goes rfl
theorem fact_inst : decide (Tryz.f3.isInstance Tryz.prog Rows.clientMakesRow.origin Rows.clientMakesRow.targs) = true := by kernel_rfl
end Go.Proofs.YtjkokahaanplfaaGreatDoor.clientMakes
