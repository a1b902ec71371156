/-
  The closed facts of the row connNumbersRow, part A: each a theorem of its own, since together they do not fit into one declaration. No condition.
-/
import Derived.Test.YtpeacofifmaofaaGreatDoorRows
import Derived.Test.YtpeacofifmaofaaGreatDoorChecked
import Derived.ProofKit
import Derived.JoinedOf
import Derived.SevenTiedAt
namespace Go.Proofs.YtpeacofifmaofaaGreatDoor.connNumbers
open Go.ChangeShapes Go.WideShapes Go.ChangeAt Go.RowKit
theorem fact_wf : Rows.connNumbersRow.wf (OpenSpec.ofChange Rows.connNumbersSpec) = true := by kernel_rfl
theorem fact_paramsR : Tryz.f3.params.all (Tryz.prog.readableRec ·) = true := by kernel_rfl
theorem fact_namedT : namedTie Tryz.prog Rows.connNumbersRow.named Rows.connNumbersSpec.vars = true := by kernel_rfl
theorem fact_stops1 : (Rows.connNumbersRow.stops == []) = true := by kernel_rfl
theorem fact_stops2 : (Tryz.prog.stops == []) = true := by kernel_rfl
theorem fact_knobs1 : (Rows.connNumbersRow.knobs == []) = true := by kernel_rfl
theorem fact_knobs2 : (Tryz.prog.stopKnobs == []) = true := by kernel_rfl
theorem fact_maps : (Rows.connNumbersRow.maps == (Tryz.f3.params.toList ++ Rows.connNumbersSpec.plain.varTypes Tryz.prog).any (Tryz.prog.mapsRec ·)) = true := by kernel_rfl
theorem fact_ifaces : (Rows.connNumbersRow.ifaces == (Tryz.f3.params.toList ++ Rows.connNumbersSpec.plain.varTypes Tryz.prog).any (Tryz.prog.ifacesRec ·)) = true := by kernel_rfl
theorem fact_mapsOut : (Rows.connNumbersRow.mapsOut == Tryz.prog.mapsAmong Tryz.f3.resultTypes.toList) = true := by kernel_rfl
theorem fact_loops : (Rows.connNumbersRow.loops == (Tryz.f3.params.toList ++ Rows.connNumbersSpec.plain.varTypes Tryz.prog).any (Tryz.prog.loopsFrom ·)) = true := by kernel_rfl
theorem fact_wideK : (Rows.connNumbersRow.wideKeys == (Tryz.f3.params.toList ++ Rows.connNumbersSpec.plain.varTypes Tryz.prog ++ Tryz.f3.resultTypes.toList).any (Tryz.prog.wideKeysFrom ·)) = true := by kernel_rfl
theorem fact_varsR : Rows.connNumbersSpec.vars.all (Tryz.prog.varReadable ·) = true := by kernel_rfl
theorem fact_resR : Tryz.f3.resultTypes.all (fun t => Tryz.prog.readableRec t && decide (t < Tryz.prog.types.size)) = true := by kernel_rfl
theorem fact_ifacesOut : (Rows.connNumbersRow.ifacesOut == Tryz.f3.resultTypes.toList.any (Tryz.prog.ifacesRec ·)) = true := by kernel_rfl
theorem fact_loopsOut : (Rows.connNumbersRow.loopsOut == Tryz.f3.resultTypes.toList.any (Tryz.prog.loopsFrom ·)) = true := by kernel_rfl
theorem fact_short : Rows.connNumbersRow.shortTexts.isNone = true := by kernel_rfl
theorem fact_lifts : (Rows.connNumbersRow.lifted == Tryz.prog.liftsFinal) = true := by kernel_rfl
theorem fact_make : (Tryz.prog.make == some Rows.connNumbersRow.make) = true := by kernel_rfl
theorem fact_kinds : (Rows.connNumbersRow.kinds == (if Rows.connNumbersRow.domain.isEmpty then [] else Tryz.f3.params.toList.map fun t => match Tryz.prog.underlying t with | some (.int k) => some k | _ => none)) = true := by kernel_rfl
theorem fact_pinned : (Rows.connNumbersRow.pinned == Rows.connNumbersRow.pinnedBy) = true := by kernel_rfl
theorem fact_veiled : (Rows.connNumbersRow.veiled == (Tryz.f3.params.toList ++ Rows.connNumbersSpec.plain.varTypes Tryz.prog ++ Tryz.f3.resultTypes.toList).any (Tryz.prog.veiledRec ·)) = true := by kernel_rfl
theorem fact_veiledF : Rows.connNumbersRow.veiledFits Tryz.prog Tryz.f3.params.toList (Tryz.f3.params.toList ++ Rows.connNumbersSpec.plain.varTypes Tryz.prog ++ Tryz.f3.resultTypes.toList) = true := by kernel_rfl
theorem fact_wfText : Rows.connNumbersRow.wfByText (OpenSpec.ofChange Rows.connNumbersSpec) = true := by kernel_rfl
theorem fact_looks : true = Tryz.prog.looks [] := by kernel_rfl
theorem fact_mainIs : Tryz.prog.mainIs = some (true, "952f59cea0629b1969590e648ca701dcd58e700493acc765286f99162369ee50".toList) := by kernel_rfl
theorem fact_own : ownKnob Tryz.prog.godebug = none := by kernel_rfl
theorem none_goes : Tryz.prog.funcs.toList.any Func.goes = false := by kernel_rfl
theorem goes_none {P : Program} {c : OpenClaim} (h : P.funcs.toList.any Func.goes = false) (hs : c.start = .entering) : false = c.goesBy P := by
  have key : ∀ g : Nat, (P.funcs[g]?).any Func.goes = false := by
    intro g
    cases hg : P.funcs[g]? with
    | none => rfl
    | some fn =>
      have hm : fn ∈ P.funcs.toList := List.mem_of_getElem? (i := g) (by rw [Array.getElem?_toList]; exact hg)
      have := List.any_eq_false.1 h fn hm
      simpa using this
  have hall : P.funcs.any Func.goes = false := by rw [← Array.any_toList]; exact h
  have hP : ∀ f, P.goes f = false := by
    intro f
    unfold Program.goes
    rw [hall, Bool.and_false, Bool.or_false]
    simp only [key]
    simp
  unfold OpenClaim.goesBy Program.goesAt Program.goesFrom
  rw [hs]
  cases P.funcNamed c.func with
  | none => rfl
  | some f => simp [hP f]
theorem fact_goes : false = Rows.connNumbersRow.goesBy Tryz.prog := goes_none none_goes rfl
theorem fact_inst : decide (Tryz.f3.isInstance Tryz.prog Rows.connNumbersRow.origin Rows.connNumbersRow.targs) = true := by kernel_rfl
end Go.Proofs.YtpeacofifmaofaaGreatDoor.connNumbers
