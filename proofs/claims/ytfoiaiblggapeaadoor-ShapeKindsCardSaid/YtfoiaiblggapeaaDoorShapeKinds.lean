/-
  Proved: the law longshorelaw07.ShapeKinds returns true for every value; the tables of the library are as the program's text lays them (the card's tie). Conditions: none beside the row's own (loops, laid).
-/
import Derived.Test.YtfoiaiblggapeaaDoorCards
import Derived.Test.YtfoiaiblggapeaaDoorTie
import Derived.Test.YtfoiaiblggapeaaDoorV6
import Derived.ProofKit
import Derived.OpenShut
import Derived.LaidLaws
import Derived.Lay
import Derived.MakeChecks
import Derived.SevenTiedAt
import Derived.JoinedOf
import Derived.ChangeVars
namespace Go.Proofs.YtfoiaiblggapeaaDoor.shapeKinds
open Go Go.ChangeShapes Go.WideShapes Go.ChangeAt Go.RowKit Go.Proofs.Nu Go.Proofs.YtfoiaiblggapeaaDoor.Va

theorem own : ownKnob Tryd.prog.godebug = none := by kernel_rfl
theorem gSpace : Tryd.prog.globalNamed "strings.asciiSpace" = some 0 := by kernel_rfl
theorem spaceData : (Rows.laid_strings_asciiSpace : DataW Unit) = Lib.tabData .u8 Lib.asciiSpaceTab := by kernel_rfl
theorem listed : ("strings.asciiSpace", Lib.tabData .u8 Lib.asciiSpaceTab) ∈ Rows.shapeKindsRow.laid := by
  rw [← spaceData]
  exact List.Mem.tail _ (List.Mem.tail _ (List.Mem.head _))

set_option maxRecDepth 100000 in
set_option maxHeartbeats 1000000 in
theorem walk_raw {N : Nat} {k m : Int} {s : ByteArray} {e : Int} {l : List VT} {lv : Value} {W : World} {t : TypeId} (hl : LAt W.heap.size W N lv l) (hf : (VT.mk k m s e l).Fine)
    (hsp : W.heap[0]? = some (.cells (Lib.asciiSpaceTab.map fun z => Value.int .u8 z).toArray t (0, 0))) :
    Calls Tryd.prog 4 #[.agg #[.int .i64 k, .int .u64 m, .string s, lv, .int .i64 e]] W fun r w' => r = .returned (.bool true) ∧ Below W.heap.size W w' := by
  have HF : Hid (∀ w', Below W.heap.size W w' → VAt W.heap.size w' N (.agg #[.int .i64 k, .int .u64 m, .string s, lv, .int .i64 e]) (.mk k m s e l) ∧ W.heap.size ≤ w'.heap.size ∧ w'.heap[0]? = some (.cells (Lib.asciiSpaceTab.map fun z => Value.int .u8 z).toArray t (0, 0))) := fun w' h =>
    ⟨⟨hf, lv, rfl, hl.below h⟩, h.size, (h.block _ (Array.getElem?_eq_some_iff.1 hsp).1).trans hsp⟩
  clear hl hf hsp
  go_enter Tryd.func4, Tryd.ntmps4
  go_wp2_with (fail)
  obtain ⟨W1, hW1⟩ : ∃ W1, W.alloc (.cells #[.int .i64 k, .int .u64 m, .string s, lv, .int .i64 e] 26) = W1 := ⟨_, rfl⟩
  have hb1 : Below W.heap.size W W1 := by rw [← hW1]; exact (Below.refl _ _).alloc (Nat.le_refl _) _
  have hz1 : W1.heap.size = W.heap.size + 1 := by rw [← hW1]; simp
  have hcell : ∀ j u, ([.int .i64 k, .int .u64 m, .string s, lv, .int .i64 e] : List Value)[j]? = some u → W1.cell? ⟨W.heap.size, j, none⟩ = some u := by
    intro j u hu
    rw [← hW1, World.cell?_alloc_new]
    simpa using hu
  have HC : Hid (∀ w', Below W1.heap.size W1 w' → (w'.cell? ⟨W.heap.size, 0, none⟩ = some (.int .i64 k) ∧ w'.cell? ⟨W.heap.size, 1, none⟩ = some (.int .u64 m) ∧ w'.cell? ⟨W.heap.size, 2, none⟩ = some (.string s) ∧ w'.cell? ⟨W.heap.size, 3, none⟩ = some lv ∧ w'.cell? ⟨W.heap.size, 4, none⟩ = some (.int .i64 e))) := fun w' h =>
    have k : ∀ j, w'.cell? ⟨W.heap.size, j, none⟩ = W1.cell? ⟨W.heap.size, j, none⟩ := fun j => h.cell (p := ⟨W.heap.size, j, none⟩) (by show W.heap.size < W1.heap.size; omega)
    ⟨(k 0).trans (hcell 0 _ rfl), (k 1).trans (hcell 1 _ rfl), (k 2).trans (hcell 2 _ rfl), (k 3).trans (hcell 3 _ rfl), (k 4).trans (hcell 4 _ rfl)⟩
  rw [hW1]
  clear hW1 hcell
  obtain ⟨h2, h3, h4⟩ := HF.out W1 hb1
  refine (great_any h2 h3).mono ?_
  rintro r w2 ⟨rfl, hb2⟩
  obtain ⟨G, hG⟩ : ∃ G, decide (100000 < wt (.mk k m s e l) 0) = G := ⟨_, rfl⟩
  rw [hG]
  clear hG h2 h3 h4
  cases G with
  | true =>
    go_wp2
    go_ret
    exact ⟨rfl, hb1.trans (hb2.mono (by omega))⟩
  | false =>
    obtain ⟨c0, c1, c2, c3, c4⟩ := HC.out w2 hb2
    have B2 := hb1.trans (hb2.mono (by omega))
    obtain ⟨h2, h3, h4⟩ := HF.out w2 B2
    go_wp2_with (fail)
    refine (live_any h4).mono ?_
    rintro r w3 ⟨rfl, hb3⟩
    have b3 := hb2.trans (hb3.mono hb2.size)
    have B3 := hb1.trans (b3.mono (by omega))
    clear c0 c1 c2 c3 c4 h2 h3 h4
    obtain ⟨c0, c1, c2, c3, c4⟩ := HC.out w3 b3
    obtain ⟨h2, h3, h4⟩ := HF.out w3 B3
    go_wp2_with (fail)
    refine (kind_any h2 h3 h4).mono ?_
    rintro r w4 ⟨hr, hb4⟩
    obtain ⟨x, y, hxy⟩ : ∃ (x : Int) (y : Bool), kindAns (kindOf (.mk k m s e l)) = .tuple #[.int .i64 x, .bool y] := ⟨_, _, rfl⟩
    rw [hxy] at hr
    subst hr
    have b4 := b3.trans (hb4.mono b3.size)
    have B4 := hb1.trans (b4.mono (by omega))
    clear c0 c1 c2 c3 c4 h2 h3 h4
    obtain ⟨c0, c1, c2, c3, c4⟩ := HC.out w4 b4
    obtain ⟨h2, h3, h4⟩ := HF.out w4 B4
    go_wp2_with (fail)
    refine (rkind_any h2 h3).mono ?_
    rintro r w5 ⟨hr, hb5⟩
    rw [hxy] at hr
    subst hr
    clear hxy
    go_wp2
    all_goals
      go_ret
      exact ⟨by simp, B4.trans (hb5.mono B4.size)⟩

theorem readable : ∀ t ∈ [26], Tryd.prog.readableRec t = true ∧ t < Tryd.prog.types.size := by
  intro t ht
  simp only [List.mem_cons, List.not_mem_nil, or_false] at ht
  subst ht
  exact ⟨by kernel_rfl, of_decide_eq_true (by kernel_rfl)⟩

set_option maxRecDepth 100000 in
set_option maxHeartbeats 1000000 in
theorem lifted (os : Os) (started : os.Started) (H : Type) (enc : TypeId × Value → H) :
    ReturnsInHanded {} Tryd.checked os 4 .any (fun w args => (Rows.shapeKindsSpec.pre enc Tryd.prog Tryd.f4 Rows.shapeKindsRow.domain false w args ∧ laidMetH Tryd.prog Rows.shapeKindsRow.laid w) ∧ sizedMet enc Tryd.prog Tryd.f4 (OpenSpec.ofChange Rows.shapeKindsSpec) false w args)
      (Rows.shapeKindsSpec.post enc Tryd.prog Tryd.f4 false true false false) := by
  refine returnsInHanded_of_change_and (C := Tryd.checked) (X := fun w _ => laidMetH Tryd.prog Rows.shapeKindsRow.laid w) (fun _ _ _ hh h => h.of_heap hh) own started (by kernel_rfl) Tryd.func4
    (ChangeSpec.witness_shaped (enc := enc) (C := Tryd.checked) (os := os) (X := fun w _ => laidMetH Tryd.prog Rows.shapeKindsRow.laid w) false (World.laidAll Tryd.prog os Rows.shapeKindsRow.laid) #[.agg #[.int .i64 0, .int .u64 0, .string ⟨#[]⟩, .slice none 0 0, .int .i64 0]] 8 (World.laidAll_os _ _ _)
      (World.shaped_of_ZipB (by kernel_rfl) (by kernel_rfl)) (by kernel_rfl) (by kernel_rfl) (by kernel_rfl)
      (by rw [MakeChecks.laidMetH_plain _ _ _ (by kernel_rfl)]; exact laidMet_laidAll _ (by kernel_rfl) (by kernel_rfl))) ?_
  intro W base args ds gs before hval0 hW _ _ hL _
  have hval : ∀ (j : Nat) t v, Tryd.f4.params[j]? = some t → args[j]? = some v → Value.okWide Tryd.prog W .any base t v := hval0
  have hW' := hW
  obtain ⟨p, q, hA0, hV, rfl, _, _⟩ := hW
  have hA : DataW.TrodAll enc Tryd.prog W 0 (fun _ => true) true Tryd.f4.params.toList args.toList ds p := hA0
  have hlt : ∀ x ∈ p, x.block < W.heap.size := fun x hx => hW'.lt x (List.mem_append_left _ hx)
  rw [Tryd.params4] at hA hval
  have hargs := fun (W' : World) (hb : Below W.heap.size W W') => below_trodAll laidOut hb (ts := [26]) readable hA hlt
  obtain ⟨v0, d0, rfl, rfl, h0⟩ := trodAll_one hA
  obtain ⟨rfl, rfl⟩ := trodVars_none hV
  obtain ⟨N, t, hf, lv, rfl, hl⟩ := open_arg (hval 0 26 v0 rfl rfl) h0
  clear hA0
  simp only [List.append_nil] at hW'
  rw [MakeChecks.laidMetH_plain _ _ _ (by kernel_rfl)] at hL
  obtain ⟨ty, ht⟩ := CE.laid_block hL listed (by rw [Lib.asciiSpaceTab_length]; decide) gSpace (t := 87) (e := 5) (n := 256) (by kernel_rfl) (by kernel_rfl) (by kernel_rfl) (by kernel_rfl) (by kernel_rfl)
  obtain ⟨k, m, s, e, l⟩ := t
  refine (walk_raw hl hf ht).mono fun e W' ⟨he, hg⟩ => ?_
  subst he
  exact ⟨_, rfl, _, _, _, [], _, [], hW', trodAll_mk1 (shut_bool Tryd.underlying4 _), hargs W' hg, rfl, hg.frame _, fun h => by cases h⟩

theorem over : Rows.ShapeKindsSaid :=
  OpenClaim.holds_of_wide 4 Tryd.f4 rfl rfl rfl rfl rfl rfl rfl ⟨rfl, rfl, rfl, rfl, rfl⟩ rfl rfl rfl rfl rfl (by kernel_rfl) Tryd.func4 (by kernel_rfl)
    (of_decide_eq_true (by kernel_rfl)) (by unfold Func.isWrapper; first | (rw [if_pos (by decide +kernel)]; kernel_rfl) | (rw [if_neg (by decide +kernel)]; exact ⟨rfl, rfl⟩))
    (fun os started H enc _ => lifted os started H enc)

theorem card_holds : Rows.ShapeKindsCardSaid :=
  Claim7.holds_tied_plain_at .later [] [.data, .listed, .data, .pinned] true (true, "aa7d4d90d39d56e74064de7aadf4df16557b048d04d44f7824a2a011b39cc821") false over (fun _ h => by cases h) (by kernel_rfl) (fun _ h => by cases h) shapeKinds_row_tie rfl ⟨rfl, rfl⟩ (by kernel_rfl) rfl
    (fun f fn hf hfn => by
      obtain rfl : f = 4 := Option.some.inj ((show Tryd.prog.funcNamed "longshore/longshorelaw07.ShapeKinds" = some 4 by kernel_rfl).symm.trans hf) |>.symm
      obtain rfl : fn = Tryd.f4 := (Option.some.inj (Tryd.func4.symm.trans hfn)).symm
      exact ⟨by kernel_rfl, fun j t ht => by
        rw [Tryd.params4] at ht
        have hm : t ∈ [26] := by simpa using Array.mem_of_getElem? ht
        have hall : ([26].all fun u => !Tryd.prog.wantsStandIn u) = true := by kernel_rfl
        exact (show Tryd.prog.wantsStandIn t = false by simpa using List.all_eq_true.1 hall t hm)⟩)
    (by kernel_rfl)
#print axioms card_holds
end Go.Proofs.YtfoiaiblggapeaaDoor.shapeKinds
