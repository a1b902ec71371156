/-
  The closed facts of the row connNewsRow, part A: each a theorem of its own, since together they do not fit into one declaration. No condition.
-/
import Derived.Test.YtannnhopgdlapaaGreatDoorCeG
import Derived.Test.YtannnhopgdlapaaGreatDoorRows
import Derived.Test.YtannnhopgdlapaaGreatDoorChecked
import Derived.ProofKit
import Derived.JoinedOf
import Derived.SevenTiedAt
namespace Go.Proofs.YtannnhopgdlapaaGreatDoor.connNews
open Go.ChangeShapes Go.WideShapes Go.ChangeAt Go.RowKit
theorem fact_wf : Rows.connNewsRow.wf (OpenSpec.ofChange Rows.connNewsSpec) = true := by kernel_rfl
theorem fact_paramsR : Tryz.f3.params.all (Tryz.prog.readableRec ·) = true := by kernel_rfl
theorem fact_namedT : namedTie Tryz.prog Rows.connNewsRow.named Rows.connNewsSpec.vars = true := by kernel_rfl
theorem fact_stops1 : (Rows.connNewsRow.stops == []) = true := by kernel_rfl
theorem fact_stops2 : (Tryz.prog.stops == []) = true := by kernel_rfl
theorem fact_knobs1 : (Rows.connNewsRow.knobs == []) = true := by kernel_rfl
theorem fact_knobs2 : (Tryz.prog.stopKnobs == []) = true := by kernel_rfl
theorem fact_maps : (Rows.connNewsRow.maps == (Tryz.f3.params.toList ++ Rows.connNewsSpec.plain.varTypes Tryz.prog).any (Tryz.prog.mapsRec ·)) = true := by kernel_rfl
theorem fact_ifaces : (Rows.connNewsRow.ifaces == (Tryz.f3.params.toList ++ Rows.connNewsSpec.plain.varTypes Tryz.prog).any (Tryz.prog.ifacesRec ·)) = true := by kernel_rfl
theorem fact_mapsOut : (Rows.connNewsRow.mapsOut == Tryz.prog.mapsAmong Tryz.f3.resultTypes.toList) = true := by kernel_rfl
theorem fact_loops : (Rows.connNewsRow.loops == (Tryz.f3.params.toList ++ Rows.connNewsSpec.plain.varTypes Tryz.prog).any (Tryz.prog.loopsFrom ·)) = true := by kernel_rfl
theorem fact_wideK : (Rows.connNewsRow.wideKeys == (Tryz.f3.params.toList ++ Rows.connNewsSpec.plain.varTypes Tryz.prog ++ Tryz.f3.resultTypes.toList).any (Tryz.prog.wideKeysFrom ·)) = true := by kernel_rfl
theorem fact_varsR : Rows.connNewsSpec.vars.all (Tryz.prog.varReadable ·) = true := by kernel_rfl
theorem fact_resR : Tryz.f3.resultTypes.all (fun t => Tryz.prog.readableRec t && decide (t < Tryz.prog.types.size)) = true := by kernel_rfl
theorem fact_ifacesOut : (Rows.connNewsRow.ifacesOut == Tryz.f3.resultTypes.toList.any (Tryz.prog.ifacesRec ·)) = true := by kernel_rfl
theorem fact_loopsOut : (Rows.connNewsRow.loopsOut == Tryz.f3.resultTypes.toList.any (Tryz.prog.loopsFrom ·)) = true := by kernel_rfl
theorem fact_short : Rows.connNewsRow.shortTexts.isNone = true := by kernel_rfl
theorem fact_lifts : (Rows.connNewsRow.lifted == Tryz.prog.liftsFinal) = true := by kernel_rfl
theorem fact_make : (Tryz.prog.make == some Rows.connNewsRow.make) = true := by kernel_rfl
theorem fact_kinds : (Rows.connNewsRow.kinds == (if Rows.connNewsRow.domain.isEmpty then [] else Tryz.f3.params.toList.map fun t => match Tryz.prog.underlying t with | some (.int k) => some k | _ => none)) = true := by kernel_rfl
theorem fact_pinned : (Rows.connNewsRow.pinned == Rows.connNewsRow.pinnedBy) = true := by kernel_rfl
theorem fact_veiled : (Rows.connNewsRow.veiled == (Tryz.f3.params.toList ++ Rows.connNewsSpec.plain.varTypes Tryz.prog ++ Tryz.f3.resultTypes.toList).any (Tryz.prog.veiledRec ·)) = true := by kernel_rfl
theorem fact_veiledF : Rows.connNewsRow.veiledFits Tryz.prog Tryz.f3.params.toList (Tryz.f3.params.toList ++ Rows.connNewsSpec.plain.varTypes Tryz.prog ++ Tryz.f3.resultTypes.toList) = true := by kernel_rfl
theorem fact_wfText : Rows.connNewsRow.wfByText (OpenSpec.ofChange Rows.connNewsSpec) = true := by kernel_rfl
theorem fact_looks : true = Tryz.prog.looks [] := by kernel_rfl
theorem fact_mainIs : Tryz.prog.mainIs = some (true, "2ff392dc20bb151e9d23c5862e9032c9a0a6bd3ae19388efe2382bb0cb0d3a60".toList) := by kernel_rfl
theorem fact_own : ownKnob Tryz.prog.godebug = none := by kernel_rfl
theorem none_goes : Tryz.prog.funcs.toList.any Func.goes = false := by kernel_rfl
theorem fact_goes : false = Rows.connNewsRow.goesBy Tryz.prog := CE.goes_no none_goes rfl
theorem fact_inst : decide (Tryz.f3.isInstance Tryz.prog Rows.connNewsRow.origin Rows.connNewsRow.targs) = true := by kernel_rfl
end Go.Proofs.YtannnhopgdlapaaGreatDoor.connNews
