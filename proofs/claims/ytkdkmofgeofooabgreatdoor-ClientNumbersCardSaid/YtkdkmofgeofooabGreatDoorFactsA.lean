/-
  The closed facts of the row clientNumbersRow, part A: each a theorem of its own, since together they do not fit into one declaration. No condition.
-/
import Derived.Test.YtkdkmofgeofooabGreatDoorCeG
import Derived.Test.YtkdkmofgeofooabGreatDoorRows
import Derived.Test.YtkdkmofgeofooabGreatDoorChecked
import Derived.ProofKit
import Derived.JoinedOf
import Derived.SevenTiedAt
namespace Go.Proofs.YtkdkmofgeofooabGreatDoor.clientNumbers
open Go.ChangeShapes Go.WideShapes Go.ChangeAt Go.RowKit
theorem fact_wf : Rows.clientNumbersRow.wf (OpenSpec.ofChange Rows.clientNumbersSpec) = true := by kernel_rfl
theorem fact_paramsR : Tryz.f3.params.all (Tryz.prog.readableRec ·) = true := by kernel_rfl
theorem fact_namedT : namedTie Tryz.prog Rows.clientNumbersRow.named Rows.clientNumbersSpec.vars = true := by kernel_rfl
theorem fact_stops1 : (Rows.clientNumbersRow.stops == []) = true := by kernel_rfl
theorem fact_stops2 : (Tryz.prog.stops == []) = true := by kernel_rfl
theorem fact_knobs1 : (Rows.clientNumbersRow.knobs == []) = true := by kernel_rfl
theorem fact_knobs2 : (Tryz.prog.stopKnobs == []) = true := by kernel_rfl
theorem fact_maps : (Rows.clientNumbersRow.maps == (Tryz.f3.params.toList ++ Rows.clientNumbersSpec.plain.varTypes Tryz.prog).any (Tryz.prog.mapsRec ·)) = true := by kernel_rfl
theorem fact_ifaces : (Rows.clientNumbersRow.ifaces == (Tryz.f3.params.toList ++ Rows.clientNumbersSpec.plain.varTypes Tryz.prog).any (Tryz.prog.ifacesRec ·)) = true := by kernel_rfl
theorem fact_mapsOut : (Rows.clientNumbersRow.mapsOut == Tryz.prog.mapsAmong Tryz.f3.resultTypes.toList) = true := by kernel_rfl
theorem fact_loops : (Rows.clientNumbersRow.loops == (Tryz.f3.params.toList ++ Rows.clientNumbersSpec.plain.varTypes Tryz.prog).any (Tryz.prog.loopsFrom ·)) = true := by kernel_rfl
theorem fact_wideK : (Rows.clientNumbersRow.wideKeys == (Tryz.f3.params.toList ++ Rows.clientNumbersSpec.plain.varTypes Tryz.prog ++ Tryz.f3.resultTypes.toList).any (Tryz.prog.wideKeysFrom ·)) = true := by kernel_rfl
theorem fact_varsR : Rows.clientNumbersSpec.vars.all (Tryz.prog.varReadable ·) = true := by kernel_rfl
theorem fact_resR : Tryz.f3.resultTypes.all (fun t => Tryz.prog.readableRec t && decide (t < Tryz.prog.types.size)) = true := by kernel_rfl
theorem fact_ifacesOut : (Rows.clientNumbersRow.ifacesOut == Tryz.f3.resultTypes.toList.any (Tryz.prog.ifacesRec ·)) = true := by kernel_rfl
theorem fact_loopsOut : (Rows.clientNumbersRow.loopsOut == Tryz.f3.resultTypes.toList.any (Tryz.prog.loopsFrom ·)) = true := by kernel_rfl
theorem fact_short : Rows.clientNumbersRow.shortTexts.isNone = true := by kernel_rfl
theorem fact_lifts : (Rows.clientNumbersRow.lifted == Tryz.prog.liftsFinal) = true := by kernel_rfl
theorem fact_make : (Tryz.prog.make == some Rows.clientNumbersRow.make) = true := by kernel_rfl
theorem fact_kinds : (Rows.clientNumbersRow.kinds == (if Rows.clientNumbersRow.domain.isEmpty then [] else Tryz.f3.params.toList.map fun t => match Tryz.prog.underlying t with | some (.int k) => some k | _ => none)) = true := by kernel_rfl
theorem fact_pinned : (Rows.clientNumbersRow.pinned == Rows.clientNumbersRow.pinnedBy) = true := by kernel_rfl
theorem fact_veiled : (Rows.clientNumbersRow.veiled == (Tryz.f3.params.toList ++ Rows.clientNumbersSpec.plain.varTypes Tryz.prog ++ Tryz.f3.resultTypes.toList).any (Tryz.prog.veiledRec ·)) = true := by kernel_rfl
theorem fact_veiledF : Rows.clientNumbersRow.veiledFits Tryz.prog Tryz.f3.params.toList (Tryz.f3.params.toList ++ Rows.clientNumbersSpec.plain.varTypes Tryz.prog ++ Tryz.f3.resultTypes.toList) = true := by kernel_rfl
theorem fact_wfText : Rows.clientNumbersRow.wfByText (OpenSpec.ofChange Rows.clientNumbersSpec) = true := by kernel_rfl
theorem fact_looks : false = Tryz.prog.looks [] := by kernel_rfl
theorem fact_mainIs : Tryz.prog.mainIs = some (true, "387226f19b53d4f0bffdea9ccfe709d968a7c8db5fc0259293b8f8f3a709ef84".toList) := by kernel_rfl
theorem fact_own : ownKnob Tryz.prog.godebug = none := by kernel_rfl
theorem none_goes : Tryz.prog.funcs.toList.any Func.goes = false := by kernel_rfl
theorem goes_none {P : Program} {c : OpenClaim} (h : P.funcs.toList.any Func.goes = false) (hs : c.start = .entering) : false = c.goesBy P := by
  have key : ∀ g : Nat, (P.funcs[g]?).any Func.goes = false := by
    intro g
    cases hg : P.funcs[g]? with
    | none => rfl
    | some fn =>
      have hm : fn ∈ P.funcs.toList := List.mem_of_getElem? (i := g) (by rw [Array.getElem?_toList]; exact hg)
      have := List.any_eq_false.1 h fn hm
      simpa using this
  have hall : P.funcs.any Func.goes = false := by rw [← Array.any_toList]; exact h
  have hP : ∀ f, P.goes f = false := by
    intro f
    unfold Program.goes
    rw [hall, Bool.and_false, Bool.or_false]
    simp only [key]
    simp
  unfold OpenClaim.goesBy Program.goesAt Program.goesFrom
  rw [hs]
  cases P.funcNamed c.func with
  | none => rfl
  | some f => simp [hP f]
theorem fact_goes : false = Rows.clientNumbersRow.goesBy Tryz.prog := goes_none none_goes rfl
theorem fact_inst : decide (Tryz.f3.isInstance Tryz.prog Rows.clientNumbersRow.origin Rows.clientNumbersRow.targs) = true := by kernel_rfl
end Go.Proofs.YtkdkmofgeofooabGreatDoor.clientNumbers
