/-
  Proved: the law longshorelaw15.ConnNews returns true for every configuration; the tables of the library are as the program's text lays them (the card's tie). Conditions: none beside the row's own (laid).
-/
import Derived.Test.YtannnhopgdlapaaGreatDoorCards
import Derived.Test.YtannnhopgdlapaaGreatDoorTie
import Derived.Test.YtannnhopgdlapaaGreatDoorN13
import Derived.Test.YtannnhopgdlapaaGreatDoorN15
import Derived.Test.YtannnhopgdlapaaGreatDoorConnLive
import Derived.Test.YtannnhopgdlapaaGreatDoorFactsA
import Derived.Test.YtannnhopgdlapaaGreatDoorFactsB
import Derived.Test.YtannnhopgdlapaaGreatDoorFactsC
import Derived.Test.YtannnhopgdlapaaGreatDoorFactsD
import Derived.Test.YtannnhopgdlapaaGreatDoorFactsE
import Derived.Test.YtannnhopgdlapaaGreatDoorFactsF
import Derived.Lib.LaidU8T
import Derived.ProofKit
import Derived.OpenShut
import Derived.LaidLaws
import Derived.Lay
import Derived.MakeChecks
import Derived.SevenTiedAt
import Derived.JoinedOf
import Derived.ChangeVars
namespace Go.Proofs.YtannnhopgdlapaaGreatDoor.connNews
open Go Go.ChangeShapes Go.WideShapes Go.ChangeAt Go.RowKit Go.Proofs.Nu Go.Proofs.YtannnhopgdlapaaGreatDoor.Uc

theorem live_any {w : World} {t : TypeId} (hsp : w.heap[3]? = some (.cells (Lib.asciiSpaceTab.map fun z => Value.int .u8 z).toArray t (0, 0))) :
    Calls Tryz.prog 4 #[] w fun e w' => e = .returned (.bool true) ∧ Below w.heap.size w w' :=
  CE.calls_entry Go.Proofs.YtannnhopgdlapaaGreatDoor.Lv.live_ok (CE.lies_tab (by decide) hsp)

/-! ### The law -/
set_option maxRecDepth 100000 in
set_option maxHeartbeats 2000000 in
theorem walk_raw (id host : ByteArray) (server guarded : Bool) (uv : Value) (users : List Usr) (seed : Int) (mech un us : ByteArray) (mf cm idl win : Int) (w : World) (hu : UsAt w.heap.size w uv users) (hT : Tabs w) {tt : TypeId} (hsp : w.heap[3]? = some (.cells (Lib.asciiSpaceTab.map fun z => Value.int .u8 z).toArray tt (0, 0))) :
    Calls Tryz.prog 3 #[.agg #[.string id, .string host, .bool server, .bool guarded, uv, .int .i64 seed, .string mech, .string un, .string us, .int .i64 mf, .int .i64 cm, .int .i64 idl, .int .i64 win]] w fun r w' => r = .returned (.bool true) ∧ Below w.heap.size w w' := by
  obtain ⟨p, n, c, huv⟩ : ∃ p n c, uv = .slice p n c := by obtain ⟨p, c, h, _⟩ := hu.form; exact ⟨p, _, c, h⟩
  subst huv
  have HU := Lib.hid hu
  have HTb := Lib.hid hT
  have hg : 3 < w.heap.size := (Array.getElem?_eq_some_iff.1 hsp).1
  have HSP : Hid (∀ w', Below w.heap.size w w' → w'.heap[3]? = some (.cells (Lib.asciiSpaceTab.map fun z => Value.int .u8 z).toArray tt (0, 0))) := fun w' h => (h.block _ hg).trans hsp
  clear hu hT hsp hg
  obtain ⟨R, hR⟩ : ∃ R, (Cfg.mk id host server guarded users seed mech (un, us) mf cm idl win).ok = R := ⟨_, rfl⟩
  have HC : Hid (∀ w', UsAt w.heap.size w' (.slice p n c) users → Tabs w' → w.heap.size ≤ w'.heap.size → Calls Tryz.prog 5 #[.agg #[.string id, .string host, .bool server, .bool guarded, .slice p n c, .int .i64 seed, .string mech, .string un, .string us, .int .i64 mf, .int .i64 cm, .int .i64 idl, .int .i64 win]] w' (NewAns R w')) := fun w' h1 h2 h3 => by
    have := connFresh_any ⟨id, host, server, guarded, users, seed, mech, (un, us), mf, cm, idl, win⟩ (.slice p n c) w' h1 h2 h3
    rw [hR] at this
    exact this
  have HD : Hid (∀ w', UsAt w.heap.size w' (.slice p n c) users → w.heap.size ≤ w'.heap.size → Calls Tryz.prog 6 #[.agg #[.string id, .string host, .bool server, .bool guarded, .slice p n c, .int .i64 seed, .string mech, .string un, .string us, .int .i64 mf, .int .i64 cm, .int .i64 idl, .int .i64 win]] w' (MadeAns R w')) := fun w' h1 h3 => by
    have := rconnNew_any ⟨id, host, server, guarded, users, seed, mech, (un, us), mf, cm, idl, win⟩ (.slice p n c) w' h1 h3
    rw [hR] at this
    exact this
  clear hR
  have HBX : Hid (∀ w', Below (w.heap.size + 1) (w.alloc (.cells #[.string id, .string host, .bool server, .bool guarded, .slice p n c, .int .i64 seed, .string mech, .string un, .string us, .int .i64 mf, .int .i64 cm, .int .i64 idl, .int .i64 win] 26)) w' → CfgAt w' w.heap.size id host server guarded (.slice p n c) seed mech un us mf cm idl win ∧ Below w.heap.size w w' ∧ w.heap.size + 1 ≤ w'.heap.size) := fun w' h => cfg_new w _ _ _ _ _ _ _ _ _ _ _ _ _ _ w' h
  go_enter Tryz.func3, Tryz.ntmps3
  go_wp2_with (fail)
  obtain ⟨W1, hW1⟩ : ∃ W1, w.alloc (.cells #[.string id, .string host, .bool server, .bool guarded, .slice p n c, .int .i64 seed, .string mech, .string un, .string us, .int .i64 mf, .int .i64 cm, .int .i64 idl, .int .i64 win] 26) = W1 := ⟨_, rfl⟩
  rw [hW1] at HBX ⊢
  clear hW1
  obtain ⟨_, hb1, hz1⟩ := HBX.out W1 (Below.refl _ _)
  refine (live_any (HSP.out W1 hb1)).mono ?_
  rintro e w2 ⟨rfl, hb2⟩
  have b2 := Lib.hid (hb2.mono hz1)
  clear hb2 hb1 hz1
  obtain ⟨⟨c0, c1, c2, c3, c4, c5, c6, c7, c8, c9, c10, c11, c12⟩, hb2, hz2⟩ := HBX.out w2 b2.out
  go_wp2_with (fail)
  refine (HC.out w2 (HU.out.below hb2) (HTb.out.below hb2) hb2.size).mono ?_
  rintro e w3 ⟨hb3, hh⟩
  have hbs := Lib.hid hb2.size
  have b3 := Lib.hid (b2.out.trans (hb3.mono hz2))
  clear c0 c1 c2 c3 c4 c5 c6 c7 c8 c9 c10 c11 c12 hb3 hb2 hz2
  obtain ⟨⟨c0, c1, c2, c3, c4, c5, c6, c7, c8, c9, c10, c11, c12⟩, hb3, hz3⟩ := HBX.out w3 b3.out
  have B3 := Lib.hid hb3
  rcases hh with ⟨hk, xb, mb, rfl, hxb, _, hF⟩ | ⟨hk, rfl⟩
  · have HK := Lib.hid hk
    have HXB := Lib.hid (Nat.le_trans hbs.out hxb)
    have HF := Lib.hid hF
    clear hk hF hxb
    go_wp2_with (fail)
    refine (HD.out w3 (HU.out.below B3.out) B3.out.size).mono ?_
    rintro e w4 ⟨hb4, hh⟩
    have B4 := Lib.hid (B3.out.trans (hb4.mono B3.out.size))
    have HF4 := Lib.hid (HF.out.below hb4)
    clear c0 c1 c2 c3 c4 c5 c6 c7 c8 c9 c10 c11 c12 hb4
    rcases hh with ⟨_, sv', rfl, _, _⟩ | ⟨hk', rfl⟩
    · go_wp2_with (fail)
      refine (over_any w4 HF4.out).mono ?_
      rintro e w5 ⟨rfl, hb5⟩
      have B5 := Lib.hid (B4.out.trans (hb5.mono B4.out.size))
      have HF5 := Lib.hid (HF4.out.below hb5)
      clear hb5
      go_wp2_with (fail)
      generalize hW7 : World.alloc _ _ = W7
      have k7 : Below w5.heap.size w5 W7 := by rw [← hW7]; exact ba (Below.refl _ _)
      have d7 : W7.cell? ⟨w5.heap.size, 0, none⟩ = some (.string ⟨#[]⟩) := by rw [← hW7]; simp
      have HF7 := Lib.hid (HF5.out.below k7)
      have B7 := Lib.hid (B5.out.trans (k7.mono B5.out.size))
      have hne : xb < w5.heap.size := HF5.out.lx
      clear hW7 k7
      refine (out_any W7 HF7.out).mono ?_
      rintro e w8 ⟨rfl, hw8⟩
      have d8 : w8.cell? ⟨w5.heap.size, 0, none⟩ = some (.string ⟨#[]⟩) := by rw [hw8, World.cell?_setCell_other W7 ⟨xb, 16, none⟩ ⟨w5.heap.size, 0, none⟩ _ (by simp)]; exact d7
      have HF8 : Hid (FreshAt w8 xb mb) := by rw [hw8]; exact HF7.out.out_
      have B8 : Hid (Below w.heap.size w w8) := by rw [hw8]; exact B7.out.setCell HXB.out _
      clear hw8 d7 hne
      go_wp2_with (fail)
      refine (up_any w8 HF8.out).mono ?_
      rintro e w9 ⟨rfl, rfl⟩
      go_wp2_with (fail)
      refine (channels_any w9 HF8.out).mono ?_
      rintro e w10 ⟨rfl, hb10⟩
      have HF10 := Lib.hid (HF8.out.below hb10)
      have B10 := Lib.hid (B8.out.trans (hb10.mono B8.out.size))
      clear hb10
      go_wp2_with (fail)
      refine (links_any 0 w10 HF10.out).mono ?_
      rintro e w11 ⟨rfl, rfl⟩
      go_wp2_with (fail)
      refine (handles_any 0 w11 HF10.out).mono ?_
      rintro e w12 ⟨rfl, rfl⟩
      go_wp2_with (fail)
      go_ret
      exact ⟨rfl, B10.out⟩
    · exact absurd (HK.out.symm.trans hk') (by decide)
  · have HK := Lib.hid hk
    clear hk
    go_wp2_with (fail)
    refine (HD.out w3 (HU.out.below B3.out) B3.out.size).mono ?_
    rintro e w4 ⟨hb4, hh⟩
    have hb5 := B3.out.trans (hb4.mono B3.out.size)
    rcases hh with ⟨hk', sv', rfl, _, _⟩ | ⟨_, rfl⟩
    · exact absurd (HK.out.symm.trans hk') (by decide)
    · go_wp2_with (fail)
      go_ret
      exact ⟨rfl, hb5⟩

theorem readable : ∀ t ∈ [26], Tryz.prog.readableRec t = true ∧ t < Tryz.prog.types.size := by
  intro t ht
  simp only [List.mem_cons, List.not_mem_nil, or_false] at ht
  subst ht
  exact ⟨by kernel_rfl, of_decide_eq_true (by kernel_rfl)⟩
theorem dataF : (Rows.laid_unicode_utf8_first : DataW Unit) = Lib.firstData := by kernel_rfl
theorem dataA : (Rows.laid_unicode_utf8_acceptRanges : DataW Unit) = Lib.acceptData := by kernel_rfl
theorem listF : ("unicode/utf8.first", Lib.firstData) ∈ Rows.connNewsRow.laid := by
  rw [← dataF]
  exact .tail _ (.tail _ (.tail _ (.head _)))
theorem listA : ("unicode/utf8.acceptRanges", Lib.acceptData) ∈ Rows.connNewsRow.laid := by
  rw [← dataA]
  exact .head _
theorem gSpace : Tryz.prog.globalNamed "strings.asciiSpace" = some 3 := by kernel_rfl
theorem spaceData : (Rows.laid_strings_asciiSpace : DataW Unit) = Lib.tabData .u8 Lib.asciiSpaceTab := by kernel_rfl
theorem listS : ("strings.asciiSpace", Lib.tabData .u8 Lib.asciiSpaceTab) ∈ Rows.connNewsRow.laid := by
  rw [← spaceData]
  exact .tail _ (.tail _ (.head _))
theorem tabs {W : World} (hL : laidMet Tryz.prog Rows.connNewsRow.laid W) : Tabs W :=
  utf8Tabs_of_readsT (ρ := Tryz.dec197_ren) { Tryz.dec197 with } ⟨by kernel_rfl, by kernel_rfl, by kernel_rfl, by kernel_rfl, by kernel_rfl, by kernel_rfl, by kernel_rfl⟩ (Lib.laidMet.reads hL listF) (Lib.laidMet.reads hL listA)

set_option maxRecDepth 100000 in
set_option maxHeartbeats 1000000 in
theorem lifted (os : Os) (started : os.Started) (H : Type) (enc : TypeId × Value → H) :
    ReturnsInHanded {} Tryz.checked os 3 .any (fun w args => (Rows.connNewsSpec.pre enc Tryz.prog Tryz.f3 Rows.connNewsRow.domain false w args ∧ laidMetH Tryz.prog Rows.connNewsRow.laid w) ∧ sizedMet enc Tryz.prog Tryz.f3 (OpenSpec.ofChange Rows.connNewsSpec) false w args)
      (Rows.connNewsSpec.post enc Tryz.prog Tryz.f3 false true false false) := by
  refine returnsInHanded_of_change_and (C := Tryz.checked) (X := fun w _ => laidMetH Tryz.prog Rows.connNewsRow.laid w) (fun _ _ _ hh h => h.of_heap hh) fact_own started (by kernel_rfl) Tryz.func3
    (ChangeSpec.witness_shaped (enc := enc) (C := Tryz.checked) (os := os) (X := fun w _ => laidMetH Tryz.prog Rows.connNewsRow.laid w) false (World.laidAll Tryz.prog os Rows.connNewsRow.laid) #[.agg #[.string ⟨#[]⟩, .string ⟨#[]⟩, .bool false, .bool false, .slice none 0 0, .int .i64 0, .string ⟨#[]⟩, .string ⟨#[]⟩, .string ⟨#[]⟩, .int .i64 0, .int .i64 0, .int .i64 0, .int .i64 0]] 8 (World.laidAll_os _ _ _)
      (World.shaped_of_ZipB (by kernel_rfl) (by kernel_rfl)) (by kernel_rfl) (by kernel_rfl) (by kernel_rfl)
      (by rw [MakeChecks.laidMetH_plain _ _ _ (by kernel_rfl)]; exact laidMet_laidAll _ (by kernel_rfl) (by kernel_rfl))) ?_
  intro W base args ds gs before hval0 hW _ hsz hL _
  have hval : ∀ (j : Nat) t v, Tryz.f3.params[j]? = some t → args[j]? = some v → Value.okWide Tryz.prog W .any base t v := hval0
  have hW' := hW
  obtain ⟨p, q, hA0, hV, rfl, _, _⟩ := hW
  have hA : DataW.TrodAll enc Tryz.prog W 0 (fun _ => true) true Tryz.f3.params.toList args.toList ds p := hA0
  have hlt : ∀ x ∈ p, x.block < W.heap.size := fun x hx => hW'.lt x (List.mem_append_left _ hx)
  rw [Tryz.params3] at hA hval
  have hargs := fun (W' : World) (hb : Below W.heap.size W W') => below_trodAll fact_laidOut hb (ts := [26]) readable hA hlt
  obtain ⟨v0, d0, rfl, rfl, h0⟩ := trodAll_one hA
  obtain ⟨rfl, rfl⟩ := trodVars_none hV
  obtain ⟨cs, rfl, hcsz⟩ := okWide_struct underC (hval 0 26 v0 rfl rfl)
  obtain ⟨fuel, hf⟩ := h0
  obtain ⟨id, host, server, guarded, uv, seed, mech, un, us, mf, cm, idl, win, n', y, parts, hcs, hy, hd, hp⟩ := open_cfg hf (by rw [Value.cells, Array.length_toList, hcsz]; exact cellsC)
  obtain ⟨users, hus⟩ := open_users hy
  have hU : UsAt W.heap.size W uv users := by
    rcases hus with ⟨rfl, rfl⟩ | ⟨a, c, el, sp, h1, h2, h3, h4, h5, h6⟩
    · exact ⟨by simp, .inl ⟨rfl, rfl⟩⟩
    · refine ⟨?_, .inr ⟨a, c, h3, h4, h5, h6⟩⟩
      rw [← h2]
      exact users_sized hsz rfl (by rw [← hd]; rfl) (by rw [hp, h1])
  have hcs' : cs = #[.string id, .string host, .bool server, .bool guarded, uv, .int .i64 seed, .string mech, .string un, .string us, .int .i64 mf, .int .i64 cm, .int .i64 idl, .int .i64 win] := Array.toList_inj.1 hcs
  subst hcs'
  clear hA0
  simp only [List.append_nil] at hW'
  rw [MakeChecks.laidMetH_plain _ _ _ (by kernel_rfl)] at hL
  obtain ⟨tt, hsp⟩ := CE.laid_block hL listS (by rw [Lib.asciiSpaceTab_length]; decide) gSpace (t := 315) (e := 5) (n := 256) (by kernel_rfl) (by kernel_rfl) (by kernel_rfl) (by kernel_rfl) (by kernel_rfl)
  refine (walk_raw id host server guarded uv users seed mech un us mf cm idl win W hU (tabs hL) hsp).mono fun e W' ⟨he, hg⟩ => ?_
  subst he
  exact ⟨_, rfl, _, _, _, [], _, [], hW', trodAll_mk1 (shut_bool Tryz.underlying4 _), hargs W' hg, rfl, hg.frame _, fun h => by cases h⟩

theorem and2 {a b : Bool} (ha : a = true) (hb : b = true) : (a && b) = true := by rw [ha, hb]; rfl
theorem closed : joinedFacts Tryz.prog 3 Tryz.f3 Rows.connNewsSpec Rows.connNewsRow = true := by
  unfold joinedFacts
  exact and2 (and2 (and2 (and2 (and2 (and2 (and2 (and2 (and2 (and2 (and2 (and2 (and2 (and2 (and2 (and2 (and2 (and2 (and2 (and2 (and2 (and2 (and2 (and2 (and2 (and2 (and2 (and2 (and2 (and2 (and2 fact_wf fact_laidOut) fact_mapsRowed) fact_paramsR) fact_namedT) fact_stops1) fact_stops2) fact_knobs1) fact_knobs2) fact_inPlace) fact_unf) fact_recu) fact_named) fact_maps) fact_ifaces) fact_mapsOut) fact_loops) fact_wideK) fact_varsR) fact_resR) fact_ifacesOut) fact_loopsOut) fact_plainK) fact_short) fact_heard) fact_enter) fact_lifts) fact_make) (by kernel_rfl)) fact_pinned) fact_veiled) fact_veiledF

theorem over : Rows.ConnNewsSaid :=
  OpenClaim.holds_of_wide 3 Tryz.f3 rfl rfl rfl rfl rfl rfl rfl ⟨rfl, rfl, rfl, rfl, rfl⟩ rfl rfl rfl rfl rfl fact_funcN Tryz.func3 closed
    (of_decide_eq_true fact_inst) (by unfold Func.isWrapper; first | (rw [if_pos (by decide +kernel)]; kernel_rfl) | (rw [if_neg (by decide +kernel)]; exact ⟨rfl, rfl⟩))
    (fun os started H enc _ => lifted os started H enc)

theorem card_holds : Rows.ConnNewsCardSaid :=
  Claim7.holds_tied_plain_at .later [] [.data, .listed, .data, .pinned] true (true, "2ff392dc20bb151e9d23c5862e9032c9a0a6bd3ae19388efe2382bb0cb0d3a60") true over (fun _ h => by cases h) fact_wfText (fun _ h => by cases h) connNews_row_tie rfl ⟨rfl, rfl⟩ fact_mainIs rfl
    (fun f fn hf hfn => by
      obtain rfl : f = 3 := Option.some.inj (fact_funcN.symm.trans hf) |>.symm
      obtain rfl : fn = Tryz.f3 := (Option.some.inj (Tryz.func3.symm.trans hfn)).symm
      exact ⟨fact_looks, fun j t ht => by
        rw [Tryz.params3] at ht
        have hm : t ∈ [26] := by simpa using Array.mem_of_getElem? ht
        have hall : ([26].all fun u => !Tryz.prog.wantsStandIn u) = true := by kernel_rfl
        exact (show Tryz.prog.wantsStandIn t = false by simpa using List.all_eq_true.1 hall t hm)⟩)
    fact_goes
#print axioms card_holds
end Go.Proofs.YtannnhopgdlapaaGreatDoor.connNews
