/-
  Proved: the law longshorelaw08.TermsSames returns true for any two states; the table strings.asciiSpace is as the program's text lays it (the card's tie). Conditions: none beside the row's own (laid).
-/
import Derived.Test.YtckggmcjcdkfhaaGreatDoorCards
import Derived.Test.YtckggmcjcdkfhaaGreatDoorTie
import Derived.Test.YtckggmcjcdkfhaaGreatDoorSC
import Derived.Test.YtckggmcjcdkfhaaGreatDoorAwake8
import Derived.Test.YtckggmcjcdkfhaaGreatDoorCeH
import Derived.Test.YtckggmcjcdkfhaaGreatDoorFactsA
import Derived.Test.YtckggmcjcdkfhaaGreatDoorFactsB
import Derived.Test.YtckggmcjcdkfhaaGreatDoorFactsC
import Derived.Test.YtckggmcjcdkfhaaGreatDoorFactsD
import Derived.Test.YtckggmcjcdkfhaaGreatDoorFactsE
import Derived.Test.YtckggmcjcdkfhaaGreatDoorFactsF
import Derived.ProofKit
import Derived.OpenShut
import Derived.LaidLaws
import Derived.Lay
import Derived.MakeChecks
import Derived.SevenTiedAt
import Derived.JoinedOf
import Derived.ChangeVars
namespace Go.Proofs.YtckggmcjcdkfhaaGreatDoor.termsSames
open Go Go.ChangeShapes Go.WideShapes Go.ChangeAt Go.RowKit Go.Proofs.Nu Go.Proofs.YtckggmcjcdkfhaaGreatDoor.Va

theorem awake_any {w : World} {t : TypeId} (hsp : w.heap[2]? = some (.cells (Lib.asciiSpaceTab.map fun z => Value.int .u8 z).toArray t (0, 0))) :
    Calls Tryz.prog 9 #[] w fun e w' => e = .returned (.bool true) ∧ Below w.heap.size w w' :=
  CE.calls_entry Go.Proofs.YtckggmcjcdkfhaaGreatDoor.Aw.awake_ok (CE.lies_tab (by decide) hsp)
section
attribute [-go_sem] Go.Instr.loadAt Go.Instr.storeAt
/-! ### The law -/
set_option maxRecDepth 100000 in
set_option maxHeartbeats 4000000 in
theorem walk_raw {N n : Nat} (s t : ST) (il al lv il' al' lv' : Value) (w : World) (hs : SVAt w.heap.size N w n (s.agg il al lv) s) (ht : SVAt w.heap.size N w n (t.agg il' al' lv') t) (h1 : LAt w.heap.size w N il s.info.list) (h2 : LAt w.heap.size w N al s.ann.list) (h3 : SAt w.heap.size N w n lv s.inner) (h1' : LAt w.heap.size w N il' t.info.list) (h2' : LAt w.heap.size w N al' t.ann.list) (h3' : SAt w.heap.size N w n lv' t.inner)
    {tt : TypeId} (hsp : w.heap[2]? = some (.cells (Lib.asciiSpaceTab.map fun z => Value.int .u8 z).toArray tt (0, 0))) :
    Calls Tryz.prog 3 #[s.agg il al lv, t.agg il' al' lv'] w fun r w' => r = .returned (.bool true) ∧ Below w.heap.size w w' := by
  obtain ⟨W1, hW1⟩ : ∃ W1, (w.alloc (.cells #[.int .i64 s.kind, .int .i64 s.section_, .int .i64 s.offset, .string s.cond, .string s.text, .int .i64 s.info.kind, .int .u64 s.info.num, .string s.info.text, il, .int .i64 s.info.elem, .bool s.failed, .bool s.elsewhere, .int .i64 s.ann.kind, .int .u64 s.ann.num, .string s.ann.text, al, .int .i64 s.ann.elem, .string s.txn, lv] 30)).alloc (.cells #[.int .i64 t.kind, .int .i64 t.section_, .int .i64 t.offset, .string t.cond, .string t.text, .int .i64 t.info.kind, .int .u64 t.info.num, .string t.info.text, il', .int .i64 t.info.elem, .bool t.failed, .bool t.elsewhere, .int .i64 t.ann.kind, .int .u64 t.ann.num, .string t.ann.text, al', .int .i64 t.ann.elem, .string t.txn, lv'] 30) = W1 := ⟨_, rfl⟩
  have hb := sbox2 hW1
  have hz1 := hb.size
  have HF := Lib.hid hs.1
  have HF' := Lib.hid ht.1
  have HK : Hid (∀ v, Below (w.heap.size + 2) W1 v → ((Instr.loadAt 30 (.pointer (some ⟨w.heap.size, 0, none⟩))).run Tryz.prog v = .ok (s.agg il al lv) v) ∧ ((Instr.loadAt 30 (.pointer (some ⟨w.heap.size + 1, 0, none⟩))).run Tryz.prog v = .ok (t.agg il' al' lv') v) ∧ Below w.heap.size w v ∧ w.heap.size + 2 ≤ v.heap.size) := fun v h =>
    ⟨load_state (hb.c1.below h (by omega)), load_state (hb.c2.below h (by omega)), hb.below.trans (h.mono (by omega)), by have := h.size; omega⟩
  have HO : Hid (∀ v, Below w.heap.size w v → LAt w.heap.size v N il s.info.list ∧ LAt w.heap.size v N al s.ann.list ∧ SAt w.heap.size N v n lv s.inner ∧ LAt w.heap.size v N il' t.info.list ∧ LAt w.heap.size v N al' t.ann.list ∧ SAt w.heap.size N v n lv' t.inner) := fun v h => ⟨h1.below h, h2.below h, h3.below h, h1'.below h, h2'.below h, h3'.below h⟩
  have hsp1 : W1.heap[2]? = some (.cells (Lib.asciiSpaceTab.map fun z => Value.int .u8 z).toArray tt (0, 0)) := (hb.below.block _ (Array.getElem?_eq_some_iff.1 hsp).1).trans hsp
  have HAW := Lib.hid (awake_any hsp1)
  clear hs ht h1 h2 h3 h1' h2' h3' hb hsp hsp1
  go_enter Tryz.func3, Tryz.ntmps3
  go_wp2_with (fail)
  clear hW1
  refine HAW.out.mono ?_
  rintro r w2 ⟨rfl, hb2⟩
  have B2 := Lib.hid (hb2.mono (Nat.le_of_eq hz1.symm))
  obtain ⟨l1, l2, hbw2, hs2⟩ := HK.out w2 B2.out
  have G1 : Hid (Calls Tryz.prog 10 #[s.agg il al lv] w2 fun r w' => r = .returned (.bool (stGreat s)) ∧ Below w2.heap.size w2 w') := by
    obtain ⟨o1, o2, o3, _⟩ := HO.out w2 hbw2
    exact greatS_raw s il al lv w2 HF.out o1 o2 o3 hbw2.size
  clear hb2 hbw2 HAW
  go_wp2_with (fail)
  refine G1.out.mono ?_
  rintro r w3 ⟨rfl, hb3⟩
  have B3 := Lib.hid (B2.out.trans (hb3.mono hs2))
  clear l1 l2 hb3
  obtain ⟨l1, l2, hbw3, hs3⟩ := HK.out w3 B3.out
  have G2 : Hid (Calls Tryz.prog 10 #[t.agg il' al' lv'] w3 fun r w' => r = .returned (.bool (stGreat t)) ∧ Below w3.heap.size w3 w') := by
    obtain ⟨_, _, _, o1, o2, o3⟩ := HO.out w3 hbw3
    exact greatS_raw t il' al' lv' w3 HF'.out o1 o2 o3 hbw3.size
  clear hbw3 G1
  go_wp2_with (fail)
  refine G2.out.mono ?_
  rintro r w4 ⟨rfl, hb4⟩
  have B4 := Lib.hid (B3.out.trans (hb4.mono hs3))
  clear l1 l2 hb4 G2 B2 B3
  obtain ⟨l1, l2, hbw4, hs4⟩ := HK.out w4 B4.out
  have BW4 := Lib.hid hbw4
  obtain ⟨g1, hg1⟩ : ∃ g, stGreat s = g := ⟨_, rfl⟩
  obtain ⟨g2, hg2⟩ : ∃ g, stGreat t = g := ⟨_, rfl⟩
  have HG1 := Lib.hid hg1
  have HG2 := Lib.hid hg2
  rw [hg1, hg2]
  clear hg1 hg2
  cases g1 with
  | true =>
    go_wp2
    go_ret
    exact ⟨rfl, BW4.out⟩
  | false =>
  cases g2 with
  | true =>
    go_wp2
    go_ret
    exact ⟨rfl, BW4.out⟩
  | false =>
  have small : ∀ u : ST, stGreat u = false → Sms u.info.list ∧ Sms u.ann.list ∧ Ssm u.inner := fun u h => by
    unfold stGreat at h
    simp only [Bool.or_eq_false_iff, decide_eq_false_iff_not, Nat.not_lt] at h
    exact small_of h.2
  have L1 : Hid (Calls Tryz.prog 11 #[s.agg il al lv] w4 fun r w' => ∃ bi ba bl m1 m2, r = .returned (s.agg (lentSl bi s.info.list.length) (lentSl ba s.ann.list.length) (lentSS bl s.inner.length)) ∧
      LentAt w' N w4.heap.size m1 (lentSl bi s.info.list.length) s.info.list ∧ LentAt w' N m1 m2 (lentSl ba s.ann.list.length) s.ann.list ∧ SLent w' N n m2 w'.heap.size (lentSS bl s.inner.length) s.inner ∧ Below w4.heap.size w4 w') := by
    obtain ⟨o1, o2, o3, _⟩ := HO.out w4 hbw4
    obtain ⟨x1, x2, x3⟩ := small s HG1.out
    exact lentStates n w.heap.size N s il al lv w4 HF.out o1 o2 o3 x1 x2 x3 hbw4.size
  obtain ⟨y1, y2, y3⟩ := small t HG2.out
  have Y123 := Lib.hid (show Sms t.info.list ∧ Sms t.ann.list ∧ Ssm t.inner from ⟨y1, y2, y3⟩)
  clear small y1 y2 y3 hbw4 HG1 HG2
  go_wp2_with (fail)
  clear l1 l2
  refine L1.out.mono ?_
  rintro r w5 ⟨bi, ba, bl, m1, m2, rfl, p1, p2, p3, hb5⟩
  have B5 := Lib.hid (B4.out.trans (hb5.mono hs4))
  obtain ⟨V1, V2, hV1, st1, kx, kb2, kz2⟩ := box_state w5 s (some ⟨bi, 0, none⟩) (some ⟨ba, 0, none⟩) (some ⟨bl, 0, none⟩) s.info.list.length (s.info.list.length + 3) s.ann.list.length (s.ann.list.length + 3) s.inner.length (s.inner.length + 2)
  have hs5 : w.heap.size + 2 ≤ w5.heap.size := by have := B5.out.size; omega
  have BV2 := Lib.hid (B5.out.trans (kb2.mono hs5))
  obtain ⟨_, l2, hbwV, hsV⟩ := HK.out V2 BV2.out
  have P := Lib.hid (show LentAt w5 N w4.heap.size m1 (lentSl bi s.info.list.length) s.info.list ∧ LentAt w5 N m1 m2 (lentSl ba s.ann.list.length) s.ann.list ∧ SLent w5 N n m2 w5.heap.size (lentSS bl s.inner.length) s.inner ∧ Cells V2 w5.heap.size 0 (s.cells (lentSl bi s.info.list.length) (lentSl ba s.ann.list.length) (lentSS bl s.inner.length)) ∧ Below w5.heap.size w5 V2 ∧ V2.heap.size = w5.heap.size + 1 from ⟨p1, p2, p3, kx, kb2, kz2⟩)
  have L2 : Hid (Calls Tryz.prog 11 #[t.agg il' al' lv'] V2 fun r w' => ∃ bi ba bl m1 m2, r = .returned (t.agg (lentSl bi t.info.list.length) (lentSl ba t.ann.list.length) (lentSS bl t.inner.length)) ∧
      LentAt w' N V2.heap.size m1 (lentSl bi t.info.list.length) t.info.list ∧ LentAt w' N m1 m2 (lentSl ba t.ann.list.length) t.ann.list ∧ SLent w' N n m2 w'.heap.size (lentSS bl t.inner.length) t.inner ∧ Below V2.heap.size V2 w') := by
    obtain ⟨_, _, _, o1, o2, o3⟩ := HO.out V2 hbwV
    exact lentStates n w.heap.size N t il' al' lv' V2 HF'.out o1 o2 o3 Y123.out.1 Y123.out.2.1 Y123.out.2.2 hbwV.size
  clear p1 p2 p3 kx kb2 kz2 hb5 hbwV L1
  go_wp2_with (fail)
  clear l2 hV1 st1
  refine L2.out.mono ?_
  rintro r w6 ⟨bi', ba', bl', m1', m2', rfl, p1, p2, p3, hb6⟩
  have B6 := Lib.hid (BV2.out.trans (hb6.mono hsV))
  obtain ⟨V3, V4, hV3, st3, ky, kb4, kz4⟩ := box_state w6 t (some ⟨bi', 0, none⟩) (some ⟨ba', 0, none⟩) (some ⟨bl', 0, none⟩) t.info.list.length (t.info.list.length + 3) t.ann.list.length (t.ann.list.length + 3) t.inner.length (t.inner.length + 2)
  have hs6 : w.heap.size + 2 ≤ w6.heap.size := by have := B6.out.size; omega
  have BV4 := Lib.hid (B6.out.trans (kb4.mono hs6))
  obtain ⟨q1, q2, q3, kx, kb2, kz2⟩ := P.out
  have hsV6 := hb6.size
  have e1 := q1.le
  have e2 := q2.le
  have e3 := q3.le
  have f1 := p1.le
  have f2 := p2.le
  have f3 := p3.le
  -- all of it in V4
  have q1' := ((q1.below (by omega) kb2).apart (x := V2.heap.size) (y := V2.heap.size) (Apart.of_below hb6 (Nat.le_refl _)) (by omega) (.inl (by omega))).apart (x := w6.heap.size) (y := w6.heap.size) (Apart.of_below kb4 (Nat.le_refl _)) (by omega) (.inl (by omega))
  have q2' := ((q2.below (by omega) kb2).apart (x := V2.heap.size) (y := V2.heap.size) (Apart.of_below hb6 (Nat.le_refl _)) (by omega) (.inl (by omega))).apart (x := w6.heap.size) (y := w6.heap.size) (Apart.of_below kb4 (Nat.le_refl _)) (by omega) (.inl (by omega))
  have q3' := ((q3.below (Nat.le_refl _) kb2).apart (x := V2.heap.size) (y := V2.heap.size) (Apart.of_below hb6 (Nat.le_refl _)) (by omega) (.inl (by omega))).apart (x := w6.heap.size) (y := w6.heap.size) (Apart.of_below kb4 (Nat.le_refl _)) (by omega) (.inl (by omega))
  have kx' := (kx.below hb6 (by omega)).below kb4 (by omega)
  have p1' := p1.below (by omega) kb4
  have p2' := p2.below (by omega) kb4
  have p3' := p3.below (Nat.le_refl _) kb4
  have HV : Hid (∀ v, Below V4.heap.size V4 v → ((Instr.loadAt 30 (.pointer (some ⟨w5.heap.size, 0, none⟩))).run Tryz.prog v = .ok (s.agg (lentSl bi s.info.list.length) (lentSl ba s.ann.list.length) (lentSS bl s.inner.length)) v) ∧ ((Instr.loadAt 30 (.pointer (some ⟨w6.heap.size, 0, none⟩))).run Tryz.prog v = .ok (t.agg (lentSl bi' t.info.list.length) (lentSl ba' t.ann.list.length) (lentSS bl' t.inner.length)) v) ∧
      SVAt V4.heap.size N v n (s.agg (lentSl bi s.info.list.length) (lentSl ba s.ann.list.length) (lentSS bl s.inner.length)) s ∧ SVAt V4.heap.size N v n (t.agg (lentSl bi' t.info.list.length) (lentSl ba' t.ann.list.length) (lentSS bl' t.inner.length)) t ∧ V4.heap.size ≤ v.heap.size) := fun v h =>
    ⟨load_state (kx'.below h (by omega)), load_state (ky.below h (by omega)), ⟨HF.out, _, _, _, rfl, (q1'.lat (by omega)).below h, (q2'.lat (by omega)).below h, (q3'.sat (by omega)).below h⟩, ⟨HF'.out, _, _, _, rfl, (p1'.lat (by omega)).below h, (p2'.lat (by omega)).below h, (p3'.sat (by omega)).below h⟩, h.size⟩
  have HX : Hid (∀ v, Below V4.heap.size V4 v → Calls Tryz.prog 14 #[s.agg (lentSl bi s.info.list.length) (lentSl ba s.ann.list.length) (lentSS bl s.inner.length), s.agg il al lv] v fun r w' => r = .returned (.bool true) ∧ Apart w4.heap.size w5.heap.size v w') := fun v h => by
    have hv := h.size
    have hbv : Below w.heap.size w v := (HK.out V4 BV4.out).2.2.1.trans (h.mono (by omega))
    obtain ⟨o1, o2, o3, _⟩ := HO.out v hbv
    exact keptStates n w.heap.size N w4.heap.size w5.heap.size s _ _ _ il al lv m1 m2 v (q1'.apart (x := V4.heap.size) (y := V4.heap.size) (Apart.of_below h (Nat.le_refl _)) (by omega) (.inl (by omega))) (q2'.apart (x := V4.heap.size) (y := V4.heap.size) (Apart.of_below h (Nat.le_refl _)) (by omega) (.inl (by omega))) (q3'.apart (x := V4.heap.size) (y := V4.heap.size) (Apart.of_below h (Nat.le_refl _)) (by omega) (.inl (by omega))) o1 o2 o3 (by omega) (by omega)
  have HY : Hid (∀ v v', Below V4.heap.size V4 v → Apart w4.heap.size w5.heap.size v v' → (Calls Tryz.prog 14 #[t.agg (lentSl bi' t.info.list.length) (lentSl ba' t.ann.list.length) (lentSS bl' t.inner.length), t.agg il' al' lv'] v' fun r w' => r = .returned (.bool true) ∧ Apart V2.heap.size w6.heap.size v' w') ∧ ((Instr.loadAt 30 (.pointer (some ⟨w6.heap.size, 0, none⟩))).run Tryz.prog v' = .ok (t.agg (lentSl bi' t.info.list.length) (lentSl ba' t.ann.list.length) (lentSS bl' t.inner.length)) v') ∧ Below (w.heap.size + 2) W1 v') := fun v v' h ha => by
    have hv := h.size
    have hv' := ha.size
    have hB' : Below (w.heap.size + 2) W1 v' := (BV4.out.trans (h.mono (by omega))).trans (ha.below (by omega) (by omega))
    have hbv : Below w.heap.size w v' := (HK.out v' hB').2.2.1
    obtain ⟨_, _, _, o1, o2, o3⟩ := HO.out v' hbv
    refine ⟨keptStates n w.heap.size N V2.heap.size w6.heap.size t _ _ _ il' al' lv' m1' m2' v' ?_ ?_ ?_ o1 o2 o3 (by omega) (by omega), load_state ((ky.below h (by omega)).apart ha (by omega) (.inr (by omega))), hB'⟩
    · exact (p1'.apart (x := V4.heap.size) (y := V4.heap.size) (Apart.of_below h (Nat.le_refl _)) (by omega) (.inl (by omega))).apart ha (by omega) (.inr (by omega))
    · exact (p2'.apart (x := V4.heap.size) (y := V4.heap.size) (Apart.of_below h (Nat.le_refl _)) (by omega) (.inl (by omega))).apart ha (by omega) (.inr (by omega))
    · exact (p3'.apart (x := V4.heap.size) (y := V4.heap.size) (Apart.of_below h (Nat.le_refl _)) (by omega) (.inl (by omega))).apart ha (by omega) (.inr (by omega))
  have HZ : Hid (w.heap.size + 2 ≤ V2.heap.size ∧ V2.heap.size ≤ w6.heap.size ∧ w6.heap.size ≤ V4.heap.size ∧ w.heap.size + 2 ≤ w4.heap.size ∧ w4.heap.size ≤ w5.heap.size ∧ w5.heap.size ≤ V4.heap.size) := ⟨hsV, hsV6, by omega, hs4, by omega, by omega⟩
  clear q1 q2 q3 kx kb2 kz2 q1' q2' q3' kx' p1 p2 p3 p1' p2' p3' ky kb4 kz4 hb6 e1 e2 e3 f1 f2 f3 P L2 hs5 hs6 hsV hsV6 hs4
  obtain ⟨E, hE⟩ : ∃ E, eqS s t = E := ⟨_, rfl⟩
  have HE := Lib.hid hE
  have HE' : Hid (eqS t s = E) := (eqS_symm t s).trans hE
  clear hE
  obtain ⟨l1, l2, v1, v2, _⟩ := HV.out V4 (Below.refl _ _)
  have S1 := Lib.hid (psame_any v1 v2 (Nat.le_refl _))
  rw [HE.out] at S1
  clear v1 v2
  go_wp2_with (fail)
  clear l1 l2 hV3 st3
  refine S1.out.mono ?_
  rintro r w7 ⟨rfl, b7⟩
  have B7 := Lib.hid b7
  obtain ⟨l1, l2, v1, v2, z7⟩ := HV.out w7 b7
  have S2 := Lib.hid (psame_any v2 v1 z7)
  rw [HE'.out] at S2
  clear v1 v2 b7 S1
  go_wp2_with (fail)
  clear l1 l2
  refine S2.out.mono ?_
  rintro r w8 ⟨rfl, b8⟩
  have B8 := Lib.hid (B7.out.trans (b8.mono z7))
  obtain ⟨l1, _, v1, _, z8⟩ := HV.out w8 B8.out
  have S3 := Lib.hid (psame_any v1 v1 z8)
  rw [eqS_refl] at S3
  clear v1 b8 S2 B7
  go_wp2_with (fail)
  clear l1
  refine S3.out.mono ?_
  rintro r w9 ⟨rfl, b9⟩
  have B9 := Lib.hid (B8.out.trans (b9.mono z8))
  obtain ⟨l1, _, _, _, z9⟩ := HV.out w9 B9.out
  have S4 := Lib.hid (pout_any s (lentSl bi s.info.list.length) (lentSl ba s.ann.list.length) (lentSS bl s.inner.length) w9)
  clear b9 S3 B8
  go_wp2_with (fail)
  clear l1
  refine S4.out.mono ?_
  rintro r w10 ⟨rfl, b10⟩
  have B10 := Lib.hid (B9.out.trans (b10.mono z9))
  obtain ⟨l1, _, _, _, z10⟩ := HV.out w10 B10.out
  have l3 := (HK.out w10 (BV4.out.trans (B10.out.mono (by have := HZ.out; omega)))).1
  clear b10 S4 B9
  go_wp2_with (fail)
  clear l1 l3
  refine (HX.out w10 B10.out).mono ?_
  rintro r w11 ⟨rfl, a11⟩
  obtain ⟨S5, l1, hB11⟩ := HY.out w10 w11 B10.out a11
  have S5 := Lib.hid S5
  have l3 := (HK.out w11 hB11).2.1
  have B11 := Lib.hid hB11
  have A11 := Lib.hid a11
  clear a11 hB11
  go_wp2_with (fail)
  clear l1 l3
  refine S5.out.mono ?_
  rintro r w12 ⟨rfl, a12⟩
  have B12 : Hid (Below (w.heap.size + 2) W1 w12) := B11.out.trans (a12.below (by have := HZ.out; omega) (by have := B11.out.size; omega))
  obtain ⟨l1, l2, hbw, hs12⟩ := HK.out w12 B12.out
  obtain ⟨o1, o2, o3, o4, o5, o6⟩ := HO.out w12 hbw
  have S6 := Lib.hid (rsame_any (s := s) (t := t) ⟨HF.out, il, al, lv, rfl, o1, o2, o3⟩ ⟨HF'.out, il', al', lv', rfl, o4, o5, o6⟩ hbw.size)
  rw [HE.out] at S6
  have BW12 := Lib.hid hbw
  clear o1 o2 o3 o4 o5 o6 hbw a12 S5
  go_wp2_with (fail)
  clear l1 l2
  refine S6.out.mono ?_
  rintro r w13 ⟨rfl, b13⟩
  have B13 := Lib.hid (B12.out.trans (b13.mono hs12))
  obtain ⟨l1, _, hbw, hs13⟩ := HK.out w13 B13.out
  have BW13 := Lib.hid hbw
  have S7 := Lib.hid (rout_any s il al lv w13)
  clear b13 hbw S6
  go_wp2_with (fail)
  clear l1
  refine S7.out.mono ?_
  rintro r w14 ⟨rfl, b14⟩
  have BW14 := Lib.hid (BW13.out.trans (b14.mono BW13.out.size))
  clear b14 S7
  go_wp2
  go_ret
  exact ⟨by simp, BW14.out⟩
end

theorem readable : ∀ t ∈ [30, 30], Tryz.prog.readableRec t = true ∧ t < Tryz.prog.types.size := by
  intro t ht
  simp only [List.mem_cons, List.not_mem_nil, or_false, or_self] at ht
  subst ht
  exact ⟨by kernel_rfl, of_decide_eq_true (by kernel_rfl)⟩
theorem gSpace : Tryz.prog.globalNamed "strings.asciiSpace" = some 2 := by kernel_rfl
theorem spaceData : (Rows.laid_strings_asciiSpace : DataW Unit) = Lib.tabData .u8 Lib.asciiSpaceTab := by kernel_rfl
theorem listS : ("strings.asciiSpace", Lib.tabData .u8 Lib.asciiSpaceTab) ∈ Rows.termsSamesRow.laid := by
  rw [← spaceData]
  exact .tail _ (.tail _ (.head _))

/-- The arguments read as they read, where nothing that lay has turned. -/
theorem below_trodAll {H : Type} {enc : TypeId × Value → H} {P : Program} (hl : laidOutB P = true) {W W' : World} (hb : Below W.heap.size W W') :
    ∀ {ts : List TypeId} {vs : List Value} {ds : List (DataW H)} {ps : List MemPlace}, (∀ t ∈ ts, P.readableRec t = true ∧ t < P.types.size) → DataW.TrodAll enc P W 0 (fun _ => true) true ts vs ds ps → (∀ x ∈ ps, x.block < W.heap.size) →
      DataW.TrodAll enc P W' 0 (fun b => decide (b < W.heap.size)) true ts vs ds ps
  | [], [], [], _, _, h, _ => h
  | [], [], _ :: _, _, _, h, _ => h.elim
  | [], _ :: _, _, _, _, h, _ => h.elim
  | _ :: _, [], _, _, _, h, _ => h.elim
  | _ :: _, _ :: _, [], _, _, h, _ => h.elim
  | t :: ts, v :: vs, d :: ds, ps, ht, ⟨p, q, h1, h2, e⟩, hlt => by
    subst e
    exact ⟨p, q, Below.trod hl (ht t (by simp)).1 (ht t (by simp)).2 h1 hb (fun x hx => hlt x (List.mem_append_left _ hx)), below_trodAll hl hb (fun x hx => ht x (List.mem_cons_of_mem _ hx)) h2 (fun x hx => hlt x (List.mem_append_right _ hx)), rfl⟩

set_option maxRecDepth 100000 in
set_option maxHeartbeats 1000000 in
theorem lifted (os : Os) (started : os.Started) (H : Type) (enc : TypeId × Value → H) :
    ReturnsInHanded {} Tryz.checked os 3 .any (fun w args => (Rows.termsSamesSpec.pre enc Tryz.prog Tryz.f3 Rows.termsSamesRow.domain false w args ∧ laidMetH Tryz.prog Rows.termsSamesRow.laid w) ∧ sizedMet enc Tryz.prog Tryz.f3 (OpenSpec.ofChange Rows.termsSamesSpec) false w args)
      (Rows.termsSamesSpec.post enc Tryz.prog Tryz.f3 false true false false) := by
  refine returnsInHanded_of_change_and (C := Tryz.checked) (X := fun w _ => laidMetH Tryz.prog Rows.termsSamesRow.laid w) (fun _ _ _ hh h => h.of_heap hh) fact_own started (by kernel_rfl) Tryz.func3
    (ChangeSpec.witness_shaped (enc := enc) (C := Tryz.checked) (os := os) (X := fun w _ => laidMetH Tryz.prog Rows.termsSamesRow.laid w) false (World.laidAll Tryz.prog os Rows.termsSamesRow.laid) #[.agg #[.int .i64 0, .int .i64 0, .int .i64 0, .string ⟨#[]⟩, .string ⟨#[]⟩, .int .i64 0, .int .u64 0, .string ⟨#[]⟩, .slice none 0 0, .int .i64 0, .bool false, .bool false, .int .i64 0, .int .u64 0, .string ⟨#[]⟩, .slice none 0 0, .int .i64 0, .string ⟨#[]⟩, .slice none 0 0], .agg #[.int .i64 0, .int .i64 0, .int .i64 0, .string ⟨#[]⟩, .string ⟨#[]⟩, .int .i64 0, .int .u64 0, .string ⟨#[]⟩, .slice none 0 0, .int .i64 0, .bool false, .bool false, .int .i64 0, .int .u64 0, .string ⟨#[]⟩, .slice none 0 0, .int .i64 0, .string ⟨#[]⟩, .slice none 0 0]] 8 (World.laidAll_os _ _ _)
      (World.shaped_of_ZipB (by kernel_rfl) (by kernel_rfl)) (by kernel_rfl) (by kernel_rfl) (by kernel_rfl)
      (by rw [MakeChecks.laidMetH_plain _ _ _ (by kernel_rfl)]; exact laidMet_laidAll _ (by kernel_rfl) (by kernel_rfl))) ?_
  intro W base args ds gs before hval0 hW _ hsz hL _
  have hval : ∀ (j : Nat) t v, Tryz.f3.params[j]? = some t → args[j]? = some v → Value.okWide Tryz.prog W .any base t v := hval0
  have hW' := hW
  obtain ⟨p, q, hA0, hV, rfl, _, _⟩ := hW
  have hA : DataW.TrodAll enc Tryz.prog W 0 (fun _ => true) true Tryz.f3.params.toList args.toList ds p := hA0
  have hlt : ∀ x ∈ p, x.block < W.heap.size := fun x hx => hW'.lt x (List.mem_append_left _ hx)
  rw [Tryz.params3] at hA hval
  have hargs := fun (W' : World) (hb : Below W.heap.size W W') => below_trodAll fact_laidOut hb (ts := [30, 30]) readable hA hlt
  obtain ⟨v0, v1, d0, d1, p0, p1, rfl, rfl, rfl, h0, h1⟩ := trodAll_two hA
  obtain ⟨rfl, rfl⟩ := trodVars_none hV
  obtain ⟨N0, s, hs⟩ := open_argS (hval 0 30 v0 rfl rfl) h0
  obtain ⟨N1, t, ht⟩ := open_argS (hval 1 30 v1 rfl rfl) h1
  obtain ⟨fs, il, al, lv, hv0, a1, a2, a3⟩ := hs
  obtain ⟨ft, il', al', lv', hv1, b1, b2, b3⟩ := ht
  subst hv0 hv1
  clear hA0
  simp only [List.append_nil] at hW'
  rw [MakeChecks.laidMetH_plain _ _ _ (by kernel_rfl)] at hL
  obtain ⟨tt, hsp⟩ := CE.laid_block hL listS (by rw [Lib.asciiSpaceTab_length]; decide) gSpace (t := 163) (e := 5) (n := 256) (by kernel_rfl) (by kernel_rfl) (by kernel_rfl) (by kernel_rfl) (by kernel_rfl)
  have a1' := a1.mono (Nat.le_add_right N0 N1)
  have a2' := a2.mono (Nat.le_add_right N0 N1)
  have a3' := a3.mono (Nat.le_add_right N0 N1) (Nat.le_add_right N0 N1)
  have b1' := b1.mono (Nat.le_add_left N1 N0)
  have b2' := b2.mono (Nat.le_add_left N1 N0)
  have b3' := b3.mono (Nat.le_add_left N1 N0) (Nat.le_add_left N1 N0)
  refine (walk_raw s t il al lv il' al' lv' W ⟨fs, il, al, lv, rfl, a1', a2', a3'⟩ ⟨ft, il', al', lv', rfl, b1', b2', b3'⟩ a1' a2' a3' b1' b2' b3' hsp).mono fun e W' ⟨he, hg⟩ => ?_
  subst he
  exact ⟨_, rfl, _, _, _, [], _, [], hW', trodAll_mk1 (shut_bool Tryz.underlying4 _), hargs W' hg, rfl, hg.frame _, fun h => by cases h⟩

theorem and2 {a b : Bool} (ha : a = true) (hb : b = true) : (a && b) = true := by rw [ha, hb]; rfl
theorem closed : joinedFacts Tryz.prog 3 Tryz.f3 Rows.termsSamesSpec Rows.termsSamesRow = true := by
  unfold joinedFacts
  exact and2 (and2 (and2 (and2 (and2 (and2 (and2 (and2 (and2 (and2 (and2 (and2 (and2 (and2 (and2 (and2 (and2 (and2 (and2 (and2 (and2 (and2 (and2 (and2 (and2 (and2 (and2 (and2 (and2 (and2 (and2 fact_wf fact_laidOut) fact_mapsRowed) fact_paramsR) fact_namedT) fact_stops1) fact_stops2) fact_knobs1) fact_knobs2) fact_inPlace) fact_unf) fact_recu) fact_named) fact_maps) fact_ifaces) fact_mapsOut) fact_loops) fact_wideK) fact_varsR) fact_resR) fact_ifacesOut) fact_loopsOut) fact_plainK) fact_short) fact_heard) fact_enter) fact_lifts) fact_make) (by kernel_rfl)) fact_pinned) fact_veiled) fact_veiledF

theorem over : Rows.TermsSamesSaid :=
  OpenClaim.holds_of_wide 3 Tryz.f3 rfl rfl rfl rfl rfl rfl rfl ⟨rfl, rfl, rfl, rfl, rfl⟩ rfl rfl rfl rfl rfl fact_funcN Tryz.func3 closed
    (of_decide_eq_true fact_inst) (by unfold Func.isWrapper; first | (rw [if_pos (by decide +kernel)]; kernel_rfl) | (rw [if_neg (by decide +kernel)]; exact ⟨rfl, rfl⟩))
    (fun os started H enc _ => lifted os started H enc)

theorem card_holds : Rows.TermsSamesCardSaid :=
  Claim7.holds_tied_plain_at .later [] [.data, .listed, .data, .pinned] true (true, "99476d3f86d5d4fa648dc4626ad995d0ea182bc2f85a1dedf7cf379cb3c4c034") false over (fun _ h => by cases h) fact_wfText (fun _ h => by cases h) termsSames_row_tie rfl ⟨rfl, rfl⟩ fact_mainIs rfl
    (fun f fn hf hfn => by
      obtain rfl : f = 3 := Option.some.inj (fact_funcN.symm.trans hf) |>.symm
      obtain rfl : fn = Tryz.f3 := (Option.some.inj (Tryz.func3.symm.trans hfn)).symm
      exact ⟨fact_looks, fun j t ht => by
        rw [Tryz.params3] at ht
        have hm : t ∈ [30, 30] := by simpa using Array.mem_of_getElem? ht
        have hall : ([30, 30].all fun u => !Tryz.prog.wantsStandIn u) = true := by kernel_rfl
        exact (show Tryz.prog.wantsStandIn t = false by simpa using List.all_eq_true.1 hall t hm)⟩)
    fact_goes
#print axioms card_holds
end Go.Proofs.YtckggmcjcdkfhaaGreatDoor.termsSames
