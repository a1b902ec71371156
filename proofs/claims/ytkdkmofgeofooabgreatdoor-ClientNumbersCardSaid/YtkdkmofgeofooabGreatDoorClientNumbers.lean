/-
  Proved: the law longshore/longshorelaw25.ClientNumbers returns true (it takes no input); the tables that the row lists are as the program's text lays them (the card's tie). By one evaluation of the call (the texts Ce..).
-/
import Derived.Test.YtkdkmofgeofooabGreatDoorCards
import Derived.Test.YtkdkmofgeofooabGreatDoorTie
import Derived.Test.YtkdkmofgeofooabGreatDoorWhole
import Derived.Test.YtkdkmofgeofooabGreatDoorFactsA
import Derived.Test.YtkdkmofgeofooabGreatDoorFactsB
import Derived.Test.YtkdkmofgeofooabGreatDoorFactsC
import Derived.Test.YtkdkmofgeofooabGreatDoorFactsD
import Derived.Test.YtkdkmofgeofooabGreatDoorFactsE
import Derived.Test.YtkdkmofgeofooabGreatDoorFactsF
import Derived.ProofKit
import Derived.OpenShut
import Derived.LaidLaws
import Derived.Lay
import Derived.MakeChecks
import Derived.SevenTiedAt
import Derived.JoinedOf
import Derived.ChangeVars
namespace Go.Proofs.YtkdkmofgeofooabGreatDoor.clientNumbers
open Go.ChangeShapes Go.WideShapes Go.ChangeAt Go.RowKit

theorem walk {W : World} : Calls Tryz.prog 3 #[] W fun e w' => e = .returned (.bool true) ∧ Below W.heap.size W w' := CE.calls_entry whole_ok (CE.lies_none _ _)

set_option maxRecDepth 100000 in
theorem lifted (os : Os) (started : os.Started) (H : Type) (enc : TypeId × Value → H) :
    ReturnsInHanded {} Tryz.checked os 3 .any (fun w args => (Rows.clientNumbersSpec.pre enc Tryz.prog Tryz.f3 Rows.clientNumbersRow.domain false w args ∧ laidMetH Tryz.prog Rows.clientNumbersRow.laid w) ∧ sizedMet enc Tryz.prog Tryz.f3 (OpenSpec.ofChange Rows.clientNumbersSpec) false w args)
      (Rows.clientNumbersSpec.post enc Tryz.prog Tryz.f3 false true false false) := by
  refine returnsInHanded_of_change_and (C := Tryz.checked) (X := fun w _ => laidMetH Tryz.prog Rows.clientNumbersRow.laid w) (fun _ _ _ hh h => h.of_heap hh) fact_own started (by kernel_rfl) Tryz.func3
    (ChangeSpec.witness_shaped (enc := enc) (C := Tryz.checked) (os := os) (X := fun w _ => laidMetH Tryz.prog Rows.clientNumbersRow.laid w) false (World.laidAll Tryz.prog os Rows.clientNumbersRow.laid) #[] 8 (World.laidAll_os _ _ _)
      (World.shaped_of_ZipB (by kernel_rfl) (by kernel_rfl)) (by kernel_rfl) (by kernel_rfl) (by kernel_rfl)
      (by rw [MakeChecks.laidMetH_plain _ _ _ (by kernel_rfl)]; exact laidMet_laidAll _ (by kernel_rfl) (by kernel_rfl))) ?_
  intro W base args ds gs before _ hW _ _ _ _
  have hW' := hW
  obtain ⟨p, q, hA0, hV, rfl, _, _⟩ := hW
  have hA : DataW.TrodAll enc Tryz.prog W 0 (fun _ => true) true Tryz.f3.params.toList args.toList ds p := hA0
  rw [Tryz.params3] at hA
  obtain ⟨rfl, rfl, rfl⟩ := trodAll_none hA
  obtain ⟨rfl, rfl⟩ := trodVars_none hV
  clear hA0
  simp only [List.append_nil] at hW'
  refine walk.mono fun e W' ⟨he, hg⟩ => ?_
  subst he
  exact ⟨_, rfl, _, _, _, [], [], [], hW', trodAll_mk1 (shut_bool Tryz.underlying4 _), trodAll_mk0, rfl, hg.frame _, fun h => by cases h⟩

theorem and2 {a b : Bool} (ha : a = true) (hb : b = true) : (a && b) = true := by rw [ha, hb]; rfl
theorem closed : joinedFacts Tryz.prog 3 Tryz.f3 Rows.clientNumbersSpec Rows.clientNumbersRow = true := by
  unfold joinedFacts
  exact and2 (and2 (and2 (and2 (and2 (and2 (and2 (and2 (and2 (and2 (and2 (and2 (and2 (and2 (and2 (and2 (and2 (and2 (and2 (and2 (and2 (and2 (and2 (and2 (and2 (and2 (and2 (and2 (and2 (and2 (and2 fact_wf fact_laidOut) fact_mapsRowed) fact_paramsR) fact_namedT) fact_stops1) fact_stops2) fact_knobs1) fact_knobs2) fact_inPlace) fact_unf) fact_recu) fact_named) fact_maps) fact_ifaces) fact_mapsOut) fact_loops) fact_wideK) fact_varsR) fact_resR) fact_ifacesOut) fact_loopsOut) fact_plainK) fact_short) fact_heard) fact_enter) fact_lifts) fact_make) (by kernel_rfl)) fact_pinned) fact_veiled) fact_veiledF
theorem over : Rows.ClientNumbersSaid :=
  OpenClaim.holds_of_wide 3 Tryz.f3 rfl rfl rfl rfl rfl rfl rfl ⟨rfl, rfl, rfl, rfl, rfl⟩ rfl rfl rfl rfl rfl fact_funcN Tryz.func3 closed
    (of_decide_eq_true fact_inst) (by unfold Func.isWrapper; first | (rw [if_pos (by decide +kernel)]; kernel_rfl) | (rw [if_neg (by decide +kernel)]; exact ⟨rfl, rfl⟩))
    (fun os started H enc _ => lifted os started H enc)

theorem card_holds : Rows.ClientNumbersCardSaid :=
  Claim7.holds_tied_plain_at .later [] [.data, .data, .data, .data, .listed, .data, .pinned] true (true, "387226f19b53d4f0bffdea9ccfe709d968a7c8db5fc0259293b8f8f3a709ef84") false over (fun _ h => by cases h) fact_wfText (fun _ h => by cases h) clientNumbers_row_tie rfl ⟨rfl, rfl⟩ fact_mainIs rfl
    (fun f fn hf hfn => by
      obtain rfl : f = 3 := Option.some.inj (fact_funcN.symm.trans hf) |>.symm
      obtain rfl : fn = Tryz.f3 := (Option.some.inj (Tryz.func3.symm.trans hfn)).symm
      exact ⟨fact_looks, fun j t ht => by
        rw [Tryz.params3] at ht
        simp at ht⟩)
    fact_goes
#print axioms card_holds
end Go.Proofs.YtkdkmofgeofooabGreatDoor.clientNumbers
