/-
  Proved: the law longshorelaw25.ClientMakes returns true for every configuration; the tables of the library are as the program's text lays them (the card's tie). Conditions: none beside the row's own (laid).
-/
import Derived.Test.YtjkokahaanplfaaGreatDoorCards
import Derived.Test.YtjkokahaanplfaaGreatDoorTie
import Derived.Test.YtjkokahaanplfaaGreatDoorG11
import Derived.Test.YtjkokahaanplfaaGreatDoorCeH
import Derived.Test.YtjkokahaanplfaaGreatDoorFactsA
import Derived.Test.YtjkokahaanplfaaGreatDoorFactsB
import Derived.Test.YtjkokahaanplfaaGreatDoorFactsC
import Derived.Test.YtjkokahaanplfaaGreatDoorFactsD
import Derived.Test.YtjkokahaanplfaaGreatDoorFactsE
import Derived.Test.YtjkokahaanplfaaGreatDoorFactsF
import Derived.Lib.LaidU8T
import Derived.ProofKit
import Derived.OpenShut
import Derived.LaidLaws
import Derived.Lay
import Derived.MakeChecks
import Derived.SevenTiedAt
import Derived.JoinedOf
import Derived.ChangeVars
namespace Go.Proofs.YtjkokahaanplfaaGreatDoor.clientMakes
open Go Go.ChangeShapes Go.WideShapes Go.ChangeAt Go.RowKit Go.Proofs.Nu Go.Proofs.YtjkokahaanplfaaGreatDoor.Uc

/-! ### live, evaluated -/
theorem mixed : Tryz.prog.follows .mixedOrders = true := by kernel_rfl
theorem noCount : CE.NoCount Tryz.prog := CE.noCount_list (by kernel_rfl)
noncomputable def liveE : CE.MemoE := { f := 4, args := [], glob := [], val := .bool true }
theorem live_says : liveE.says Tryz.prog 10 1000000 [] = true := by kernel_rfl
theorem live_any (w : World) : Calls Tryz.prog 4 #[] w fun e w' => e = .returned (.bool true) ∧ Below w.heap.size w w' :=
  CE.calls_entry (CE.memo_ok mixed noCount (CE.memo_none _ _) live_says) (CE.lies_none _ _)

/-! ### The law -/
set_option maxRecDepth 100000 in
set_option maxHeartbeats 2000000 in
theorem walk_raw (id host : ByteArray) (server guarded : Bool) (uv : Value) (users : List Usr) (seed : Int) (mech un us : ByteArray) (mf cm idl win : Int) (w : World) (hu : UsAt w.heap.size w uv users) (hT : Tabs w) :
    Calls Tryz.prog 3 #[.agg #[.string id, .string host, .bool server, .bool guarded, uv, .int .i64 seed, .string mech, .string un, .string us, .int .i64 mf, .int .i64 cm, .int .i64 idl, .int .i64 win]] w fun r w' => r = .returned (.bool true) ∧ Below w.heap.size w w' := by
  obtain ⟨p, n, c, huv⟩ : ∃ p n c, uv = .slice p n c := by obtain ⟨p, c, h, _⟩ := hu.form; exact ⟨p, _, c, h⟩
  subst huv
  have HU := Lib.hid hu
  have HTb := Lib.hid hT
  clear hu hT
  obtain ⟨R, hR⟩ : ∃ R, (!server && (Cfg.mk id host server guarded users seed mech (un, us) mf cm idl win).ok) = R := ⟨_, rfl⟩
  have HC : Hid (∀ w', UsAt w.heap.size w' (.slice p n c) users → Tabs w' → w.heap.size ≤ w'.heap.size → Calls Tryz.prog 5 #[.agg #[.string id, .string host, .bool server, .bool guarded, .slice p n c, .int .i64 seed, .string mech, .string un, .string us, .int .i64 mf, .int .i64 cm, .int .i64 idl, .int .i64 win]] w' (MadeAns R w')) := fun w' h1 h2 h3 => by
    have := clientNew_any ⟨id, host, server, guarded, users, seed, mech, (un, us), mf, cm, idl, win⟩ (.slice p n c) w' h1 h2 h3
    rw [show (!(Cfg.mk id host server guarded users seed mech (un, us) mf cm idl win).server && (Cfg.mk id host server guarded users seed mech (un, us) mf cm idl win).ok) = R from hR] at this
    exact this
  have HD : Hid (∀ w', UsAt w.heap.size w' (.slice p n c) users → w.heap.size ≤ w'.heap.size → Calls Tryz.prog 6 #[.agg #[.string id, .string host, .bool server, .bool guarded, .slice p n c, .int .i64 seed, .string mech, .string un, .string us, .int .i64 mf, .int .i64 cm, .int .i64 idl, .int .i64 win]] w' (MadeAns R w')) := fun w' h1 h3 => by
    have := rclientNew_any ⟨id, host, server, guarded, users, seed, mech, (un, us), mf, cm, idl, win⟩ (.slice p n c) w' h1 h3
    rw [show (!(Cfg.mk id host server guarded users seed mech (un, us) mf cm idl win).server && (Cfg.mk id host server guarded users seed mech (un, us) mf cm idl win).ok) = R from hR] at this
    exact this
  clear hR
  have HBX : Hid (∀ w', Below (w.heap.size + 1) (w.alloc (.cells #[.string id, .string host, .bool server, .bool guarded, .slice p n c, .int .i64 seed, .string mech, .string un, .string us, .int .i64 mf, .int .i64 cm, .int .i64 idl, .int .i64 win] 26)) w' → CfgAt w' w.heap.size id host server guarded (.slice p n c) seed mech un us mf cm idl win ∧ Below w.heap.size w w' ∧ w.heap.size + 1 ≤ w'.heap.size) := fun w' h => cfg_new w _ _ _ _ _ _ _ _ _ _ _ _ _ _ w' h
  go_enter Tryz.func3, Tryz.ntmps3
  go_wp2_with (fail)
  obtain ⟨W1, hW1⟩ : ∃ W1, w.alloc (.cells #[.string id, .string host, .bool server, .bool guarded, .slice p n c, .int .i64 seed, .string mech, .string un, .string us, .int .i64 mf, .int .i64 cm, .int .i64 idl, .int .i64 win] 26) = W1 := ⟨_, rfl⟩
  rw [hW1] at HBX ⊢
  clear hW1
  obtain ⟨_, hb1, hz1⟩ := HBX.out W1 (Below.refl _ _)
  refine (live_any W1).mono ?_
  rintro e w2 ⟨rfl, hb2⟩
  have b2 := Lib.hid (hb2.mono hz1)
  clear hb2 hb1 hz1
  obtain ⟨⟨c0, c1, c2, c3, c4, c5, c6, c7, c8, c9, c10, c11, c12⟩, hb2, hz2⟩ := HBX.out w2 b2.out
  go_wp2_with (fail)
  refine (HC.out w2 (HU.out.below hb2) (HTb.out.below hb2) hb2.size).mono ?_
  rintro e w3 ⟨hb3, hh⟩
  have b3 := Lib.hid (b2.out.trans (hb3.mono hz2))
  clear c0 c1 c2 c3 c4 c5 c6 c7 c8 c9 c10 c11 c12 hb3 hb2 hz2
  obtain ⟨⟨c0, c1, c2, c3, c4, c5, c6, c7, c8, c9, c10, c11, c12⟩, hb3, hz3⟩ := HBX.out w3 b3.out
  rcases hh with ⟨hk, sv, rfl, _, _⟩ | ⟨hk, rfl⟩
  · have HK := Lib.hid hk
    clear hk
    go_wp2_with (fail)
    refine (HD.out w3 (HU.out.below hb3) hb3.size).mono ?_
    rintro e w4 ⟨hb4, hh⟩
    have hb5 := hb3.trans (hb4.mono hb3.size)
    rcases hh with ⟨_, sv', rfl, _, _⟩ | ⟨hk', rfl⟩
    · go_wp2_with (fail)
      go_ret
      exact ⟨rfl, hb5⟩
    · exact absurd (HK.out.symm.trans hk') (by decide)
  · have HK := Lib.hid hk
    clear hk
    go_wp2_with (fail)
    refine (HD.out w3 (HU.out.below hb3) hb3.size).mono ?_
    rintro e w4 ⟨hb4, hh⟩
    have hb5 := hb3.trans (hb4.mono hb3.size)
    rcases hh with ⟨hk', sv', rfl, _, _⟩ | ⟨_, rfl⟩
    · exact absurd (HK.out.symm.trans hk') (by decide)
    · go_wp2_with (fail)
      go_ret
      exact ⟨rfl, hb5⟩

theorem readable : ∀ t ∈ [26], Tryz.prog.readableRec t = true ∧ t < Tryz.prog.types.size := by
  intro t ht
  simp only [List.mem_cons, List.not_mem_nil, or_false] at ht
  subst ht
  exact ⟨by kernel_rfl, of_decide_eq_true (by kernel_rfl)⟩
theorem dataF : (Rows.laid_unicode_utf8_first : DataW Unit) = Lib.firstData := by kernel_rfl
theorem dataA : (Rows.laid_unicode_utf8_acceptRanges : DataW Unit) = Lib.acceptData := by kernel_rfl
theorem listF : ("unicode/utf8.first", Lib.firstData) ∈ Rows.clientMakesRow.laid := by
  rw [← dataF]
  exact .tail _ (.tail _ (.tail _ (.tail _ (.tail _ (.tail _ (.head _))))))
theorem listA : ("unicode/utf8.acceptRanges", Lib.acceptData) ∈ Rows.clientMakesRow.laid := by
  rw [← dataA]
  exact .tail _ (.tail _ (.tail _ (.head _)))
theorem tabs {W : World} (hL : laidMet Tryz.prog Rows.clientMakesRow.laid W) : Tabs W :=
  utf8Tabs_of_readsT (ρ := Tryz.dec197_ren) { Tryz.dec197 with } ⟨by kernel_rfl, by kernel_rfl, by kernel_rfl, by kernel_rfl, by kernel_rfl, by kernel_rfl, by kernel_rfl⟩ (Lib.laidMet.reads hL listF) (Lib.laidMet.reads hL listA)

set_option maxRecDepth 100000 in
set_option maxHeartbeats 1000000 in
theorem lifted (os : Os) (started : os.Started) (H : Type) (enc : TypeId × Value → H) :
    ReturnsInHanded {} Tryz.checked os 3 .any (fun w args => (Rows.clientMakesSpec.pre enc Tryz.prog Tryz.f3 Rows.clientMakesRow.domain false w args ∧ laidMetH Tryz.prog Rows.clientMakesRow.laid w) ∧ sizedMet enc Tryz.prog Tryz.f3 (OpenSpec.ofChange Rows.clientMakesSpec) false w args)
      (Rows.clientMakesSpec.post enc Tryz.prog Tryz.f3 false true false false) := by
  refine returnsInHanded_of_change_and (C := Tryz.checked) (X := fun w _ => laidMetH Tryz.prog Rows.clientMakesRow.laid w) (fun _ _ _ hh h => h.of_heap hh) fact_own started (by kernel_rfl) Tryz.func3
    (ChangeSpec.witness_shaped (enc := enc) (C := Tryz.checked) (os := os) (X := fun w _ => laidMetH Tryz.prog Rows.clientMakesRow.laid w) false (World.laidAll Tryz.prog os Rows.clientMakesRow.laid) #[.agg #[.string ⟨#[]⟩, .string ⟨#[]⟩, .bool false, .bool false, .slice none 0 0, .int .i64 0, .string ⟨#[]⟩, .string ⟨#[]⟩, .string ⟨#[]⟩, .int .i64 0, .int .i64 0, .int .i64 0, .int .i64 0]] 8 (World.laidAll_os _ _ _)
      (World.shaped_of_ZipB (by kernel_rfl) (by kernel_rfl)) (by kernel_rfl) (by kernel_rfl) (by kernel_rfl)
      (by rw [MakeChecks.laidMetH_plain _ _ _ (by kernel_rfl)]; exact laidMet_laidAll _ (by kernel_rfl) (by kernel_rfl))) ?_
  intro W base args ds gs before hval0 hW _ hsz hL _
  have hval : ∀ (j : Nat) t v, Tryz.f3.params[j]? = some t → args[j]? = some v → Value.okWide Tryz.prog W .any base t v := hval0
  have hW' := hW
  obtain ⟨p, q, hA0, hV, rfl, _, _⟩ := hW
  have hA : DataW.TrodAll enc Tryz.prog W 0 (fun _ => true) true Tryz.f3.params.toList args.toList ds p := hA0
  have hlt : ∀ x ∈ p, x.block < W.heap.size := fun x hx => hW'.lt x (List.mem_append_left _ hx)
  rw [Tryz.params3] at hA hval
  have hargs := fun (W' : World) (hb : Below W.heap.size W W') => below_trodAll fact_laidOut hb (ts := [26]) readable hA hlt
  obtain ⟨v0, d0, rfl, rfl, h0⟩ := trodAll_one hA
  obtain ⟨rfl, rfl⟩ := trodVars_none hV
  obtain ⟨cs, rfl, hcsz⟩ := okWide_struct underC (hval 0 26 v0 rfl rfl)
  obtain ⟨fuel, hf⟩ := h0
  obtain ⟨id, host, server, guarded, uv, seed, mech, un, us, mf, cm, idl, win, n', y, parts, hcs, hy, hd, hp⟩ := open_cfg hf (by rw [Value.cells, Array.length_toList, hcsz]; exact cellsC)
  obtain ⟨users, hus⟩ := open_users hy
  have hU : UsAt W.heap.size W uv users := by
    rcases hus with ⟨rfl, rfl⟩ | ⟨a, c, el, sp, h1, h2, h3, h4, h5, h6⟩
    · exact ⟨by simp, .inl ⟨rfl, rfl⟩⟩
    · refine ⟨?_, .inr ⟨a, c, h3, h4, h5, h6⟩⟩
      rw [← h2]
      exact users_sized hsz rfl (by rw [← hd]; rfl) (by rw [hp, h1])
  have hcs' : cs = #[.string id, .string host, .bool server, .bool guarded, uv, .int .i64 seed, .string mech, .string un, .string us, .int .i64 mf, .int .i64 cm, .int .i64 idl, .int .i64 win] := Array.toList_inj.1 hcs
  subst hcs'
  clear hA0
  simp only [List.append_nil] at hW'
  rw [MakeChecks.laidMetH_plain _ _ _ (by kernel_rfl)] at hL
  refine (walk_raw id host server guarded uv users seed mech un us mf cm idl win W hU (tabs hL)).mono fun e W' ⟨he, hg⟩ => ?_
  subst he
  exact ⟨_, rfl, _, _, _, [], _, [], hW', trodAll_mk1 (shut_bool Tryz.underlying4 _), hargs W' hg, rfl, hg.frame _, fun h => by cases h⟩

theorem and2 {a b : Bool} (ha : a = true) (hb : b = true) : (a && b) = true := by rw [ha, hb]; rfl
theorem closed : joinedFacts Tryz.prog 3 Tryz.f3 Rows.clientMakesSpec Rows.clientMakesRow = true := by
  unfold joinedFacts
  exact and2 (and2 (and2 (and2 (and2 (and2 (and2 (and2 (and2 (and2 (and2 (and2 (and2 (and2 (and2 (and2 (and2 (and2 (and2 (and2 (and2 (and2 (and2 (and2 (and2 (and2 (and2 (and2 (and2 (and2 (and2 fact_wf fact_laidOut) fact_mapsRowed) fact_paramsR) fact_namedT) fact_stops1) fact_stops2) fact_knobs1) fact_knobs2) fact_inPlace) fact_unf) fact_recu) fact_named) fact_maps) fact_ifaces) fact_mapsOut) fact_loops) fact_wideK) fact_varsR) fact_resR) fact_ifacesOut) fact_loopsOut) fact_plainK) fact_short) fact_heard) fact_enter) fact_lifts) fact_make) (by kernel_rfl)) fact_pinned) fact_veiled) fact_veiledF

theorem over : Rows.ClientMakesSaid :=
  OpenClaim.holds_of_wide 3 Tryz.f3 rfl rfl rfl rfl rfl rfl rfl ⟨rfl, rfl, rfl, rfl, rfl⟩ rfl rfl rfl rfl rfl fact_funcN Tryz.func3 closed
    (of_decide_eq_true fact_inst) (by unfold Func.isWrapper; first | (rw [if_pos (by decide +kernel)]; kernel_rfl) | (rw [if_neg (by decide +kernel)]; exact ⟨rfl, rfl⟩))
    (fun os started H enc _ => lifted os started H enc)

theorem card_holds : Rows.ClientMakesCardSaid :=
  Claim7.holds_tied_plain_at .later [] [.data, .data, .data, .data, .listed, .data, .pinned] true (true, "b6f04d21feb230e881d6547c0dbf9e3f36c15e4b0e0b036058d6475212516f0f") false over (fun _ h => by cases h) fact_wfText (fun _ h => by cases h) clientMakes_row_tie rfl ⟨rfl, rfl⟩ fact_mainIs rfl
    (fun f fn hf hfn => by
      obtain rfl : f = 3 := Option.some.inj (fact_funcN.symm.trans hf) |>.symm
      obtain rfl : fn = Tryz.f3 := (Option.some.inj (Tryz.func3.symm.trans hfn)).symm
      exact ⟨fact_looks, fun j t ht => by
        rw [Tryz.params3] at ht
        have hm : t ∈ [26] := by simpa using Array.mem_of_getElem? ht
        have hall : ([26].all fun u => !Tryz.prog.wantsStandIn u) = true := by kernel_rfl
        exact (show Tryz.prog.wantsStandIn t = false by simpa using List.all_eq_true.1 hall t hm)⟩)
    fact_goes
#print axioms card_holds
end Go.Proofs.YtjkokahaanplfaaGreatDoor.clientMakes
