/-
  Proved: the law longshorelaw09.PerformBlanks returns true at every number; the table strings.asciiSpace is as the program's text lays it (the card's tie). By evaluations of the call (the texts Ce..): below 0 and above 24 under a variable, the others one by one.
-/
import Derived.Test.YtkdkmofgeofooaaGreatDoorCards
import Derived.Test.YtkdkmofgeofooaaGreatDoorTie
import Derived.Test.YtkdkmofgeofooaaGreatDoorKinds
import Derived.Test.YtkdkmofgeofooaaGreatDoorFactsA
import Derived.Test.YtkdkmofgeofooaaGreatDoorFactsB
import Derived.Test.YtkdkmofgeofooaaGreatDoorFactsC
import Derived.Test.YtkdkmofgeofooaaGreatDoorFactsD
import Derived.Test.YtkdkmofgeofooaaGreatDoorFactsE
import Derived.Test.YtkdkmofgeofooaaGreatDoorFactsF
import Derived.ProofKit
import Derived.OpenShut
import Derived.LaidLaws
import Derived.Lay
import Derived.MakeChecks
import Derived.SevenTiedAt
import Derived.JoinedOf
import Derived.ChangeVars
namespace Go.Proofs.YtkdkmofgeofooaaGreatDoor.performBlanks
open Go.ChangeShapes Go.WideShapes Go.ChangeAt Go.RowKit

theorem gSpace : Tryz.prog.globalNamed "strings.asciiSpace" = some 0 := by kernel_rfl
theorem spaceData : (Rows.laid_strings_asciiSpace : DataW Unit) = Lib.tabData .u8 Lib.asciiSpaceTab := by kernel_rfl
theorem listed : ("strings.asciiSpace", Lib.tabData .u8 Lib.asciiSpaceTab) ∈ Rows.performBlanksRow.laid := by
  rw [← spaceData]
  exact List.Mem.tail _ (List.Mem.tail _ (List.Mem.head _))
theorem walk {W : World} (n : Int) (h : laidMet Tryz.prog Rows.performBlanksRow.laid W) : Calls Tryz.prog 3 #[.int .i64 n] W fun e w' => e = .returned (.bool true) ∧ Below W.heap.size W w' := by
  obtain ⟨t, ht⟩ := CE.laid_block h listed (by rw [Lib.asciiSpaceTab_length]; decide) gSpace (t := 210) (e := 5) (n := 256) (by kernel_rfl) (by kernel_rfl) (by kernel_rfl) (by kernel_rfl) (by kernel_rfl)
  exact CE.calls_entry (all_ok n) (CE.lies_tab (by decide) ht)

set_option maxRecDepth 100000 in
theorem lifted (os : Os) (started : os.Started) (H : Type) (enc : TypeId × Value → H) :
    ReturnsInHanded {} Tryz.checked os 3 .any (fun w args => (Rows.performBlanksSpec.pre enc Tryz.prog Tryz.f3 Rows.performBlanksRow.domain false w args ∧ laidMetH Tryz.prog Rows.performBlanksRow.laid w) ∧ sizedMet enc Tryz.prog Tryz.f3 (OpenSpec.ofChange Rows.performBlanksSpec) false w args)
      (Rows.performBlanksSpec.post enc Tryz.prog Tryz.f3 false true false false) := by
  refine returnsInHanded_of_change_and (C := Tryz.checked) (X := fun w _ => laidMetH Tryz.prog Rows.performBlanksRow.laid w) (fun _ _ _ hh h => h.of_heap hh) fact_own started (by kernel_rfl) Tryz.func3
    (ChangeSpec.witness_shaped (enc := enc) (C := Tryz.checked) (os := os) (X := fun w _ => laidMetH Tryz.prog Rows.performBlanksRow.laid w) false (World.laidAll Tryz.prog os Rows.performBlanksRow.laid) #[.int .i64 0] 8 (World.laidAll_os _ _ _)
      (World.shaped_of_ZipB (by kernel_rfl) (by kernel_rfl)) (by kernel_rfl) (by kernel_rfl) (by kernel_rfl)
      (by rw [MakeChecks.laidMetH_plain _ _ _ (by kernel_rfl)]; exact laidMet_laidAll _ (by kernel_rfl) (by kernel_rfl))) ?_
  intro W base args ds gs before hval0 hW _ _ hL _
  have hval : ∀ (j : Nat) t v, Tryz.f3.params[j]? = some t → args[j]? = some v → Value.okWide Tryz.prog W .any base t v := hval0
  have hW' := hW
  obtain ⟨p, q, hA0, hV, rfl, _, _⟩ := hW
  have hA : DataW.TrodAll enc Tryz.prog W 0 (fun _ => true) true Tryz.f3.params.toList args.toList ds p := hA0
  rw [Tryz.params3] at hA hval
  obtain ⟨v0, d0, rfl, rfl, h0⟩ := trodAll_one hA
  obtain ⟨rfl, rfl⟩ := trodVars_none hV
  obtain ⟨n, rfl, rfl, rfl, wn⟩ := open_int Tryz.underlying3 (hval 0 3 v0 rfl rfl) h0
  clear hA0
  simp only [List.append_nil] at hW'
  rw [MakeChecks.laidMetH_plain _ _ _ (by kernel_rfl)] at hL
  refine (walk n hL).mono fun e W' ⟨he, hg⟩ => ?_
  subst he
  exact ⟨_, rfl, _, _, _, [], [], [], hW', trodAll_mk1 (shut_bool Tryz.underlying4 _), trodAll_mk1 (shut_int Tryz.underlying3 wn), rfl, hg.frame _, fun h => by cases h⟩

theorem and2 {a b : Bool} (ha : a = true) (hb : b = true) : (a && b) = true := by rw [ha, hb]; rfl
theorem closed : joinedFacts Tryz.prog 3 Tryz.f3 Rows.performBlanksSpec Rows.performBlanksRow = true := by
  unfold joinedFacts
  exact and2 (and2 (and2 (and2 (and2 (and2 (and2 (and2 (and2 (and2 (and2 (and2 (and2 (and2 (and2 (and2 (and2 (and2 (and2 (and2 (and2 (and2 (and2 (and2 (and2 (and2 (and2 (and2 (and2 (and2 (and2 fact_wf fact_laidOut) fact_mapsRowed) fact_paramsR) fact_namedT) fact_stops1) fact_stops2) fact_knobs1) fact_knobs2) fact_inPlace) fact_unf) fact_recu) fact_named) fact_maps) fact_ifaces) fact_mapsOut) fact_loops) fact_wideK) fact_varsR) fact_resR) fact_ifacesOut) fact_loopsOut) fact_plainK) fact_short) fact_heard) fact_enter) fact_lifts) fact_make) (by kernel_rfl)) fact_pinned) fact_veiled) fact_veiledF
theorem over : Rows.PerformBlanksSaid :=
  OpenClaim.holds_of_wide 3 Tryz.f3 rfl rfl rfl rfl rfl rfl rfl ⟨rfl, rfl, rfl, rfl, rfl⟩ rfl rfl rfl rfl rfl fact_funcN Tryz.func3 closed
    (of_decide_eq_true fact_inst) (by unfold Func.isWrapper; first | (rw [if_pos (by decide +kernel)]; kernel_rfl) | (rw [if_neg (by decide +kernel)]; exact ⟨rfl, rfl⟩))
    (fun os started H enc _ => lifted os started H enc)

theorem card_holds : Rows.PerformBlanksCardSaid :=
  Claim7.holds_tied_plain_at .later [] [.data, .listed, .data, .pinned] true (true, "4bfb1d5fd09d678447279564a0819fc34d996fe785f6c24420d39d80a3ac0c90") true over (fun _ h => by cases h) fact_wfText (fun _ h => by cases h) performBlanks_row_tie rfl ⟨rfl, rfl⟩ fact_mainIs rfl
    (fun f fn hf hfn => by
      obtain rfl : f = 3 := Option.some.inj (fact_funcN.symm.trans hf) |>.symm
      obtain rfl : fn = Tryz.f3 := (Option.some.inj (Tryz.func3.symm.trans hfn)).symm
      exact ⟨fact_looks, fun j t ht => by
        rw [Tryz.params3] at ht
        have hm : t ∈ [3] := by simpa using Array.mem_of_getElem? ht
        have hall : ([3].all fun u => !Tryz.prog.wantsStandIn u) = true := by kernel_rfl
        exact (show Tryz.prog.wantsStandIn t = false by simpa using List.all_eq_true.1 hall t hm)⟩)
    fact_goes
#print axioms card_holds
end Go.Proofs.YtkdkmofgeofooaaGreatDoor.performBlanks
