/-
  The closed facts of the row performBlanksRow, part A: each a theorem of its own, since together they do not fit into one declaration. No condition.
-/
import Derived.Test.YtkdkmofgeofooaaGreatDoorCeG
import Derived.Test.YtkdkmofgeofooaaGreatDoorRows
import Derived.Test.YtkdkmofgeofooaaGreatDoorChecked
import Derived.ProofKit
import Derived.JoinedOf
import Derived.SevenTiedAt
namespace Go.Proofs.YtkdkmofgeofooaaGreatDoor.performBlanks
open Go.ChangeShapes Go.WideShapes Go.ChangeAt Go.RowKit
theorem fact_wf : Rows.performBlanksRow.wf (OpenSpec.ofChange Rows.performBlanksSpec) = true := by kernel_rfl
theorem fact_paramsR : Tryz.f3.params.all (Tryz.prog.readableRec ·) = true := by kernel_rfl
theorem fact_namedT : namedTie Tryz.prog Rows.performBlanksRow.named Rows.performBlanksSpec.vars = true := by kernel_rfl
theorem fact_stops1 : (Rows.performBlanksRow.stops == []) = true := by kernel_rfl
theorem fact_stops2 : (Tryz.prog.stops == []) = true := by kernel_rfl
theorem fact_knobs1 : (Rows.performBlanksRow.knobs == []) = true := by kernel_rfl
theorem fact_knobs2 : (Tryz.prog.stopKnobs == []) = true := by kernel_rfl
theorem fact_maps : (Rows.performBlanksRow.maps == (Tryz.f3.params.toList ++ Rows.performBlanksSpec.plain.varTypes Tryz.prog).any (Tryz.prog.mapsRec ·)) = true := by kernel_rfl
theorem fact_ifaces : (Rows.performBlanksRow.ifaces == (Tryz.f3.params.toList ++ Rows.performBlanksSpec.plain.varTypes Tryz.prog).any (Tryz.prog.ifacesRec ·)) = true := by kernel_rfl
theorem fact_mapsOut : (Rows.performBlanksRow.mapsOut == Tryz.prog.mapsAmong Tryz.f3.resultTypes.toList) = true := by kernel_rfl
theorem fact_loops : (Rows.performBlanksRow.loops == (Tryz.f3.params.toList ++ Rows.performBlanksSpec.plain.varTypes Tryz.prog).any (Tryz.prog.loopsFrom ·)) = true := by kernel_rfl
theorem fact_wideK : (Rows.performBlanksRow.wideKeys == (Tryz.f3.params.toList ++ Rows.performBlanksSpec.plain.varTypes Tryz.prog ++ Tryz.f3.resultTypes.toList).any (Tryz.prog.wideKeysFrom ·)) = true := by kernel_rfl
theorem fact_varsR : Rows.performBlanksSpec.vars.all (Tryz.prog.varReadable ·) = true := by kernel_rfl
theorem fact_resR : Tryz.f3.resultTypes.all (fun t => Tryz.prog.readableRec t && decide (t < Tryz.prog.types.size)) = true := by kernel_rfl
theorem fact_ifacesOut : (Rows.performBlanksRow.ifacesOut == Tryz.f3.resultTypes.toList.any (Tryz.prog.ifacesRec ·)) = true := by kernel_rfl
theorem fact_loopsOut : (Rows.performBlanksRow.loopsOut == Tryz.f3.resultTypes.toList.any (Tryz.prog.loopsFrom ·)) = true := by kernel_rfl
theorem fact_short : Rows.performBlanksRow.shortTexts.isNone = true := by kernel_rfl
theorem fact_lifts : (Rows.performBlanksRow.lifted == Tryz.prog.liftsFinal) = true := by kernel_rfl
theorem fact_make : (Tryz.prog.make == some Rows.performBlanksRow.make) = true := by kernel_rfl
theorem fact_kinds : (Rows.performBlanksRow.kinds == (if Rows.performBlanksRow.domain.isEmpty then [] else Tryz.f3.params.toList.map fun t => match Tryz.prog.underlying t with | some (.int k) => some k | _ => none)) = true := by kernel_rfl
theorem fact_pinned : (Rows.performBlanksRow.pinned == Rows.performBlanksRow.pinnedBy) = true := by kernel_rfl
theorem fact_veiled : (Rows.performBlanksRow.veiled == (Tryz.f3.params.toList ++ Rows.performBlanksSpec.plain.varTypes Tryz.prog ++ Tryz.f3.resultTypes.toList).any (Tryz.prog.veiledRec ·)) = true := by kernel_rfl
theorem fact_veiledF : Rows.performBlanksRow.veiledFits Tryz.prog Tryz.f3.params.toList (Tryz.f3.params.toList ++ Rows.performBlanksSpec.plain.varTypes Tryz.prog ++ Tryz.f3.resultTypes.toList) = true := by kernel_rfl
theorem fact_wfText : Rows.performBlanksRow.wfByText (OpenSpec.ofChange Rows.performBlanksSpec) = true := by kernel_rfl
theorem fact_looks : true = Tryz.prog.looks [] := by kernel_rfl
theorem fact_mainIs : Tryz.prog.mainIs = some (true, "4bfb1d5fd09d678447279564a0819fc34d996fe785f6c24420d39d80a3ac0c90".toList) := by kernel_rfl
theorem fact_own : ownKnob Tryz.prog.godebug = none := by kernel_rfl
theorem none_goes : Tryz.prog.funcs.toList.any Func.goes = false := by kernel_rfl
theorem goes_none {P : Program} {c : OpenClaim} (h : P.funcs.toList.any Func.goes = false) (hs : c.start = .entering) : false = c.goesBy P := by
  have key : ∀ g : Nat, (P.funcs[g]?).any Func.goes = false := by
    intro g
    cases hg : P.funcs[g]? with
    | none => rfl
    | some fn =>
      have hm : fn ∈ P.funcs.toList := List.mem_of_getElem? (i := g) (by rw [Array.getElem?_toList]; exact hg)
      have := List.any_eq_false.1 h fn hm
      simpa using this
  have hall : P.funcs.any Func.goes = false := by rw [← Array.any_toList]; exact h
  have hP : ∀ f, P.goes f = false := by
    intro f
    unfold Program.goes
    rw [hall, Bool.and_false, Bool.or_false]
    simp only [key]
    simp
  unfold OpenClaim.goesBy Program.goesAt Program.goesFrom
  rw [hs]
  cases P.funcNamed c.func with
  | none => rfl
  | some f => simp [hP f]
theorem fact_goes : false = Rows.performBlanksRow.goesBy Tryz.prog := goes_none none_goes rfl
theorem fact_inst : decide (Tryz.f3.isInstance Tryz.prog Rows.performBlanksRow.origin Rows.performBlanksRow.targs) = true := by kernel_rfl
end Go.Proofs.YtkdkmofgeofooaaGreatDoor.performBlanks
