/-
  The law ShapeFields, walked; the door of fieldsOwned. Condition: the table strings.asciiSpace lies as the program's text lays it.
-/
import Derived.Test.YtfoiaiblggapeaaGreatDoorF4
import Derived.Test.YtfoiaiblggapeaaGreatDoorV6
import Derived.Test.YtfoiaiblggapeaaGreatDoorNm3
namespace Go.Proofs.YtfoiaiblggapeaaGreatDoor.Fd
open Go Go.RowKit Go.Proofs.Nu Go.Proofs.YtfoiaiblggapeaaGreatDoor.Va Go.Proofs.YtfoiaiblggapeaaGreatDoor.Nm

/-- What is known of a list of fields, its kinds told. -/
structure FsK (lo hi : Nat) (w : World) (v : Value) (kvs : List Value) : Prop where
  len : kvs.length ≤ 300
  read : ∃ p c, v = .slice p kvs.length c ∧ ∀ (k : Nat) (kv : Value), kvs[k]? = some kv → ∃ b off, p = some ⟨b, off, none⟩ ∧ b < w.heap.size ∧ w.cell? ⟨b, off + k * 9 + 2, none⟩ = some kv
  rows : ∀ (k : Nat) (u : Value), (v :: kvs)[k]? = some u → u = .slice none 0 0 ∨ ∃ b off n c, u = .slice (some ⟨b, off, none⟩) n c ∧ lo ≤ b ∧ b < hi ∧ b < w.heap.size ∧ n ≤ c ∧ n ≤ 300 ∧ w.there b off (c * (if k = 0 then 9 else 1))
  apart : ApartB (v :: kvs)
theorem FsOwn.split {lo hi : Nat} {w : World} {v : Value} {fs : List FT} (h : FsOwn lo hi w v fs) (hl : fs.length ≤ 300) (hks : ∀ f ∈ fs, f.kinds.length ≤ 300) : ∃ kvs, FsK lo hi w v kvs := by
  rcases h with ⟨rfl, rfl⟩ | ⟨_, kvs, h2, ⟨b, off, c, rfl, hlo, hlt, hhi, hnc, hth, hr⟩, h4, h5⟩
  · refine ⟨[], by simp, ⟨none, 0, rfl, fun k kv h => by simp at h⟩, fun k u hu => ?_, List.Pairwise.cons (fun b hb => by simp at hb) List.Pairwise.nil⟩
    cases k with
    | zero => simp at hu; exact .inl hu.symm
    | succ k => simp at hu
  · refine ⟨kvs, by omega, ⟨_, c, by rw [h2], fun k kv hk => ?_⟩, fun k u hu => ?_, h5⟩
    · obtain ⟨f, hf⟩ : ∃ f, fs[k]? = some f := ⟨_, List.getElem?_eq_getElem (by have := (List.getElem?_eq_some_iff.1 hk).1; omega)⟩
      refine ⟨b, off, rfl, Nat.lt_of_lt_of_le hlt hhi, ?_⟩
      rw [Nat.add_assoc]
      exact hr _ _ ((fcells_get hf hk 2 (by omega)).trans rfl)
    · cases k with
      | zero =>
        simp at hu
        subst hu
        exact .inr ⟨b, off, _, c, rfl, hlo, hlt, Nat.lt_of_lt_of_le hlt hhi, hnc, hl, hth⟩
      | succ k =>
        simp at hu
        obtain ⟨f, hf⟩ : ∃ f, fs[k]? = some f := ⟨_, List.getElem?_eq_getElem (by have := (List.getElem?_eq_some_iff.1 hu).1; omega)⟩
        rcases h4 k f u hf hu with ⟨_, e⟩ | ⟨_, b', off', c', rfl, k1, k2, k3, k4, k5, _⟩
        · exact .inl e
        · exact .inr ⟨b', off', _, c', rfl, k1, k2, Nat.lt_of_lt_of_le k2 k3, k4, hks f (List.mem_of_getElem? hf), k5⟩
theorem flatten_inv : ∀ {l : List (List Value)} {t : Nat} {x : Value}, l.flatten[t]? = some x → ∃ (i : Nat) (r : List Value) (k : Nat), l[i]? = some r ∧ r[k]? = some x ∧ t = (l.take i).flatten.length + k
  | [], t, x, h => by simp at h
  | r :: l, t, x, h => by
    rw [List.flatten_cons] at h
    rcases Nat.lt_or_ge t r.length with hlt | hge
    · rw [List.getElem?_append_left hlt] at h
      exact ⟨0, r, t, rfl, h, by simp⟩
    · rw [List.getElem?_append_right hge] at h
      obtain ⟨i, r', k, h1, h2, h3⟩ := flatten_inv h
      exact ⟨i + 1, r', k, by simpa using h1, h2, by rw [List.take_succ_cons, List.flatten_cons, List.length_append]; omega⟩
def tagF (kvss : List (List Value)) (i : Nat) : Nat → FK
  | 0 => .inr i
  | k + 1 => .inl ((kvss.take i).flatten.length + k)
def ofF (vs : List Value) (kvss : List (List Value)) : FK → Option Value
  | .inr i => vs[i]?
  | .inl t => kvss.flatten[t]?
section
variable {W : World} {vs : List Value} {kvss : List (List Value)} {lo hi : Nat → Nat}
theorem of_inv (hlen : vs.length = kvss.length) {f : FK} {v : Value} (h : ofF vs kvss f = some v) : ∃ (i : Nat) (vi : Value) (kvs : List Value) (k : Nat), vs[i]? = some vi ∧ kvss[i]? = some kvs ∧ (vi :: kvs)[k]? = some v ∧ f = tagF kvss i k := by
  cases f with
  | inr i =>
    have hi := (List.getElem?_eq_some_iff.1 h).1
    exact ⟨i, v, kvss[i]'(by omega), 0, h, List.getElem?_eq_getElem (by omega), rfl, rfl⟩
  | inl t =>
    obtain ⟨i, r, k, h1, h2, rfl⟩ := flatten_inv h
    have hi := (List.getElem?_eq_some_iff.1 h1).1
    exact ⟨i, vs[i]'(by omega), r, k + 1, List.getElem?_eq_getElem (by omega), h1, by simpa using h2, rfl⟩
theorem FsK.blk {lo hi : Nat} {w : World} {v : Value} {kvs : List Value} (h : FsK lo hi w v kvs) {k : Nat} {u : Value} (hu : (v :: kvs)[k]? = some u) {b : Nat} (hb : u.ownBlock = some b) : lo ≤ b ∧ b < hi := by
  rcases h.rows k u hu with rfl | ⟨b', off, n, c, rfl, h1, h2, _⟩
  · simp [Value.ownBlock] at hb
  · simp [Value.ownBlock] at hb; subst hb; exact ⟨h1, h2⟩
theorem ApartB.idx {vs : List Value} (h : ApartB vs) {i j : Nat} {u v : Value} {b : Nat} (hu : vs[i]? = some u) (hv : vs[j]? = some v) (hb : u.ownBlock = some b) (hb' : v.ownBlock = some b) : i = j := by
  obtain ⟨h1, e1⟩ := List.getElem?_eq_some_iff.1 hu
  obtain ⟨h2, e2⟩ := List.getElem?_eq_some_iff.1 hv
  have hp := List.pairwise_iff_getElem.1 h
  rcases Nat.lt_trichotomy i j with hij | hij | hij
  · exact absurd (by rw [e2]; exact hb') (hp i j h1 h2 hij b (by rw [e1]; exact hb))
  · exact hij
  · exact absurd (by rw [e1]; exact hb) (hp j i h2 h1 hij b (by rw [e2]; exact hb'))
theorem door_of (h3 : vs.length = 3) (h3' : kvss.length = 3) (hk : ∀ (i : Nat) (v : Value) (kvs : List Value), vs[i]? = some v → kvss[i]? = some kvs → FsK (lo i) (hi i) W v kvs) (hlen : kvss.flatten.length ≤ 1000) (hord : ∀ i j, i < j → j < 3 → hi i ≤ lo j)
    {gl : Nat} (hgl : gl < W.heap.size) (hgc : ∀ (t : Nat) (x : Value), vs[t]? = some x → W.cell? ⟨gl, t, none⟩ = some x) (hgo : ∀ i, i < 3 → hi i ≤ gl) :
    ∃ own0, Door W own0 vs kvss (.slice (some ⟨gl, 0, none⟩) 3 3) ∧ ∀ b x, own0 b = some x → ∃ i, i < 3 ∧ lo i ≤ b ∧ b < hi i := by
  have hl : vs.length = kvss.length := by omega
  obtain ⟨own0, h1, h2⟩ := own_of patF W (ofF vs kvss) (fun f g v u b hf hg hb hb' => by
      obtain ⟨i, vi, kvs, k, a1, a2, a3, rfl⟩ := of_inv hl hf
      obtain ⟨j, vj, kvs', k', b1, b2, b3, rfl⟩ := of_inv hl hg
      have hi3 := (List.getElem?_eq_some_iff.1 a1).1
      have hj3 := (List.getElem?_eq_some_iff.1 b1).1
      have c1 := (hk i vi kvs a1 a2).blk a3 hb
      have c2 := (hk j vj kvs' b1 b2).blk b3 hb'
      have hij : i = j := by
        rcases Nat.lt_trichotomy i j with h | h | h
        · have := hord i j h (by omega); omega
        · exact h
        · have := hord j i h (by omega); omega
      subst hij
      rw [a1] at b1; rw [a2] at b2
      cases b1; cases b2
      rw [(hk i vi kvs a1 a2).apart.idx a3 b3 hb hb'])
    (fun f v hf => by
      obtain ⟨i, vi, kvs, k, a1, a2, a3, rfl⟩ := of_inv hl hf
      rcases (hk i vi kvs a1 a2).rows k v a3 with e | ⟨b, off, n, c, rfl, _, _, hb, hnc, _, hth⟩
      · exact .inl e
      · refine .inr ⟨b, off, n, c, rfl, hb, hnc, ?_⟩
        cases k with
        | zero => exact hth
        | succ k => exact hth)
  have hiv : ∀ b x, own0 b = some x → ∃ i, i < 3 ∧ lo i ≤ b ∧ b < hi i := fun b x hx => by
    obtain ⟨_, v, hv, hb⟩ := h1 b x hx
    obtain ⟨i, vi, kvs, k, a1, a2, a3, _⟩ := of_inv hl hv
    have hi3 := (List.getElem?_eq_some_iff.1 a1).1
    exact ⟨i, by omega, (hk i vi kvs a1 a2).blk a3 hb⟩
  have hfam : ∀ f v, ofF vs kvss f = some v → Fam patF own0 W f 0 1000 v := fun f v hf => h2 f v 1000 hf fun p n c e => by
    obtain ⟨i, vi, kvs, k, a1, a2, a3, _⟩ := of_inv hl hf
    rcases (hk i vi kvs a1 a2).rows k v a3 with rfl | ⟨b, off, n', c', rfl, _, _, _, _, hn, _⟩
    · cases e; omega
    · cases e; omega
  refine ⟨own0, ⟨h3, h3', hlen, ⟨_, 3, by rw [h3], fun t x hx => ⟨gl, rfl, hgl, ?_, hgc t x hx⟩⟩, fun b x hx => (h1 b x hx).1, fun i v kvs hv hkv => ?_, fun i v hv => hfam (.inr i) v hv, fun t v hv => hfam (.inl t) v hv⟩, hiv⟩
  · cases hh : own0 gl with
    | none => rfl
    | some x =>
      obtain ⟨i, hi3, _, hlt⟩ := hiv gl x hh
      have := hgo i hi3
      omega
  · have := hk i v kvs hv hkv
    exact ⟨by have := this.len; omega, this.read⟩
end
theorem tab_small : ∀ e ∈ tab, e.2.length ≤ 20 ∧ ∀ f ∈ e.2, f.kinds.length ≤ 20 := by decide
theorem fields_small (k : Int) : ((fieldsT k).getD []).length ≤ 20 ∧ ∀ f ∈ (fieldsT k).getD [], f.kinds.length ≤ 20 := by
  cases k with
  | negSucc j => exact ⟨by show (0 : Nat) ≤ 20; omega, fun f hf => by cases hf⟩
  | ofNat n =>
    show ((fieldsN n).getD []).length ≤ 20 ∧ ∀ f ∈ (fieldsN n).getD [], f.kinds.length ≤ 20
    unfold fieldsN
    cases h : tab.find? fun e => Nat.beq e.1 n with
    | none => exact ⟨by show (0 : Nat) ≤ 20; omega, fun f hf => by cases hf⟩
    | some e => exact tab_small e (List.mem_of_find?_eq_some h)

set_option maxRecDepth 100000 in
set_option maxHeartbeats 4000000 in
theorem walk_raw (k o : Int) {W : World} {t : TypeId} (hk0 : -9223372036854775808 ≤ k) (hk1 : k ≤ 9223372036854775807)
    (hsp : W.heap[0]? = some (.cells (Lib.asciiSpaceTab.map fun z => Value.int .u8 z).toArray t (0, 0))) :
    Calls Tryz.prog 3 #[.int .i64 k, .int .i64 o] W fun r w' => r = .returned (.bool true) ∧ Below W.heap.size W w' := by
  have HSP : Hid (∀ w', Below W.heap.size W w' → w'.heap[0]? = some (.cells (Lib.asciiSpaceTab.map fun z => Value.int .u8 z).toArray t (0, 0))) := fun w' h => (h.block _ (Array.getElem?_eq_some_iff.1 hsp).1).trans hsp
  clear hsp
  have HK := Lib.hid (fields_small k)
  have HO := Lib.hid (fields_small o)
  obtain ⟨K, hK⟩ : ∃ K, (fieldsT k).getD [] = K := ⟨_, rfl⟩
  obtain ⟨O, hO⟩ : ∃ O, (fieldsT o).getD [] = O := ⟨_, rfl⟩
  obtain ⟨x, hx⟩ : ∃ x, (fieldsT k).isSome = x := ⟨_, rfl⟩
  obtain ⟨y, hy⟩ : ∃ y, (fieldsT o).isSome = y := ⟨_, rfl⟩
  have fk : ∀ w, Calls Tryz.prog 8 #[.int .i64 k] w fun r w' => ∃ v, r = .returned (.tuple #[v, .bool x]) ∧ FsOwn w.heap.size w'.heap.size w' v K ∧ Below w.heap.size w w' := fun w => by
    have := fields_any k w
    unfold FieldsAns at this
    rwa [hK, hx] at this
  have rk : ∀ w, Calls Tryz.prog 9 #[.int .i64 k] w fun r w' => ∃ v, r = .returned (.tuple #[v, .bool x]) ∧ FsOwn w.heap.size w'.heap.size w' v K ∧ Below w.heap.size w w' := fun w => by
    have := rfields_any k w
    unfold FieldsAns at this
    rwa [hK, hx] at this
  have fo : ∀ w, Calls Tryz.prog 8 #[.int .i64 o] w fun r w' => ∃ v, r = .returned (.tuple #[v, .bool y]) ∧ FsOwn w.heap.size w'.heap.size w' v O ∧ Below w.heap.size w w' := fun w => by
    have := fields_any o w
    unfold FieldsAns at this
    rwa [hO, hy] at this
  have ro : ∀ w, Calls Tryz.prog 9 #[.int .i64 o] w fun r w' => ∃ v, r = .returned (.tuple #[v, .bool y]) ∧ FsOwn w.heap.size w'.heap.size w' v O ∧ Below w.heap.size w w' := fun w => by
    have := rfields_any o w
    unfold FieldsAns at this
    rwa [hO, hy] at this
  rw [hK] at HK
  rw [hO] at HO
  clear hK hO hx hy
  have FKH := Lib.hid fk
  have RKH := Lib.hid rk
  have FOH := Lib.hid fo
  have ROH := Lib.hid ro
  have SAK : Hid (∀ (lo hi lo' hi' : Nat) (v v' : Value) (w : World), FsOwn lo hi w v K → FsOwn lo' hi' w v' K → Calls Tryz.prog 12 #[v, v'] w fun r w' => r = .returned (.bool true) ∧ Below w.heap.size w w') := fun lo hi lo' hi' v v' w h h' =>
    same_any h h' (by have := HK.out.1; omega) (fun f hf => by have := HK.out.2 f hf; omega)
  have SAO : Hid (∀ (lo hi lo' hi' : Nat) (v v' : Value) (w : World), FsOwn lo hi w v O → FsOwn lo' hi' w v' O → Calls Tryz.prog 12 #[v, v'] w fun r w' => r = .returned (.bool true) ∧ Below w.heap.size w w') := fun lo hi lo' hi' v v' w h h' =>
    same_any h h' (by have := HO.out.1; omega) (fun f hf => by have := HO.out.2 f hf; omega)
  clear fk rk fo ro
  go_enter Tryz.func3, Tryz.ntmps3
  go_wp2_with (fail)
  refine (live_any (HSP.out W (Below.refl _ _))).mono ?_
  rintro r w1 ⟨rfl, hb1⟩
  have B1 := Lib.hid hb1
  clear hb1
  go_wp2_with (fail)
  refine (FKH.out w1).mono ?_
  rintro r w2 ⟨va, rfl, ha, hb2⟩
  have z2 := Lib.hid hb2.size
  have B2 := Lib.hid (B1.out.trans (hb2.mono B1.out.size))
  have HA := Lib.hid ha
  clear hb2 ha
  go_wp2_with (fail)
  refine (RKH.out w2).mono ?_
  rintro r w3 ⟨vb, rfl, hb', hb3⟩
  have z3 := Lib.hid hb3.size
  have B3 := Lib.hid (B2.out.trans (hb3.mono B2.out.size))
  have HA3 := Lib.hid (HA.out.below hb3)
  have HB := Lib.hid hb'
  clear hb3 hb' HA
  go_wp2_with (fail)
  refine (name_any k (HSP.out w3 B3.out) hk0 hk1).mono ?_
  rintro r w4 ⟨rfl, hb4⟩
  have z4 := Lib.hid hb4.size
  have B4 := Lib.hid (B3.out.trans (hb4.mono B3.out.size))
  have HA4 := Lib.hid (HA3.out.below hb4)
  have HB4 := Lib.hid (HB.out.below hb4)
  clear hb4 HA3 HB
  go_wp2_with (fail)
  refine (refName_any k w4).mono ?_
  rintro r w5 ⟨rfl, hb5⟩
  have z5 := Lib.hid hb5.size
  have B5 := Lib.hid (B4.out.trans (hb5.mono B4.out.size))
  have HA5 := Lib.hid (HA4.out.below hb5)
  have HB5 := Lib.hid (HB4.out.below hb5)
  clear hb5 HA4 HB4
  go_wp2_with (fail)
  refine (FKH.out w5).mono ?_
  rintro r w6 ⟨vg, rfl, hg, hb6⟩
  have z6 := Lib.hid hb6.size
  have B6 := Lib.hid (B5.out.trans (hb6.mono B5.out.size))
  have HA6 := Lib.hid (HA5.out.below hb6)
  have HB6 := Lib.hid (HB5.out.below hb6)
  have HG := Lib.hid hg
  clear hb6 hg HA5 HB5
  go_wp2_with (fail)
  refine (FOH.out w6).mono ?_
  rintro r w7 ⟨vc, rfl, hc, hb7⟩
  have z7 := Lib.hid hb7.size
  have B7 := Lib.hid (B6.out.trans (hb7.mono B6.out.size))
  have HA7 := Lib.hid (HA6.out.below hb7)
  have HB7 := Lib.hid (HB6.out.below hb7)
  have HG7 := Lib.hid (HG.out.below hb7)
  have HC := Lib.hid hc
  clear hb7 hc HA6 HB6 HG
  go_wp2_with (fail)
  refine (ROH.out w7).mono ?_
  rintro r w8 ⟨vd, rfl, hd, hb8⟩
  have z8 := Lib.hid hb8.size
  have B8 := Lib.hid (B7.out.trans (hb8.mono B7.out.size))
  have HA8 := Lib.hid (HA7.out.below hb8)
  have HB8 := Lib.hid (HB7.out.below hb8)
  have HG8 := Lib.hid (HG7.out.below hb8)
  have HC8 := Lib.hid (HC.out.below hb8)
  have HD := Lib.hid hd
  clear hb8 hd HA7 HB7 HG7 HC
  go_wp2_with (fail)
  refine (SAK.out _ _ _ _ va vb w8 HA8.out HB8.out).mono ?_
  rintro r w9 ⟨rfl, hb9⟩
  have z9 := Lib.hid hb9.size
  have B9 := Lib.hid (B8.out.trans (hb9.mono B8.out.size))
  have HA9 := Lib.hid (HA8.out.below hb9)
  have HB9 := Lib.hid (HB8.out.below hb9)
  have HG9 := Lib.hid (HG8.out.below hb9)
  have HC9 := Lib.hid (HC8.out.below hb9)
  have HD9 := Lib.hid (HD.out.below hb9)
  clear hb9 HA8 HB8 HG8 HC8 HD
  go_wp2_with (fail)
  refine (SAK.out _ _ _ _ vg vb w9 HG9.out HB9.out).mono ?_
  rintro r w10 ⟨rfl, hb10⟩
  have z10 := Lib.hid hb10.size
  have B10 := Lib.hid (B9.out.trans (hb10.mono B9.out.size))
  have HA10 := Lib.hid (HA9.out.below hb10)
  have HB10 := Lib.hid (HB9.out.below hb10)
  have HG10 := Lib.hid (HG9.out.below hb10)
  have HC10 := Lib.hid (HC9.out.below hb10)
  have HD10 := Lib.hid (HD9.out.below hb10)
  clear hb10 HA9 HB9 HG9 HC9 HD9
  go_wp2_with (fail)
  refine (SAO.out _ _ _ _ vc vd w10 HC10.out HD10.out).mono ?_
  rintro r w11 ⟨rfl, hb11⟩
  have z11 := Lib.hid hb11.size
  have B11 := Lib.hid (B10.out.trans (hb11.mono B10.out.size))
  have HA11 := Lib.hid (HA10.out.below hb11)
  have HB11 := Lib.hid (HB10.out.below hb11)
  have HG11 := Lib.hid (HG10.out.below hb11)
  have HC11 := Lib.hid (HC10.out.below hb11)
  clear hb11 HA10 HB10 HG10 HC10 HD10
  obtain ⟨pa, ca, rfl, hu⟩ := HA11.out.view
  clear hu
  obtain ⟨pg, cg, rfl, hu⟩ := HG11.out.view
  clear hu
  obtain ⟨pc, cc, rfl, hu⟩ := HC11.out.view
  clear hu
  obtain ⟨W12, hW12⟩ : ∃ W', w11.alloc (.cells #[.slice pa K.length ca, .slice pg K.length cg, .slice pc O.length cc] 23) = W' := ⟨_, rfl⟩
  have HW := Lib.hid hW12
  go_wp2_with (fail)
  clear hW12
  have hb12 : Below w11.heap.size w11 W12 := by rw [← HW.out]; exact (Below.refl _ _).alloc (Nat.le_refl _) _
  have zz : W12.heap.size = w11.heap.size + 1 := by rw [← HW.out]; simp
  have hcl : ∀ j u, ([.slice pa K.length ca, .slice pg K.length cg, .slice pc O.length cc] : List Value)[j]? = some u → W12.cell? ⟨w11.heap.size, j, none⟩ = some u := by
    intro j u hu
    rw [← HW.out, World.cell?_alloc_new]
    simpa using hu
  have B12 := B11.out.trans (hb12.mono B11.out.size)
  have HA12 := HA11.out.below hb12
  have HB12 := HB11.out.below hb12
  have HG12 := HG11.out.below hb12
  have HC12 := HC11.out.below hb12
  clear HA11 HB11 HG11 HC11 HW
  have s1 := B1.out.size
  have s2 := z2.out
  have s3 := z3.out
  have s4 := z4.out
  have s5 := z5.out
  have s6 := z6.out
  have s7 := z7.out
  have s8 := z8.out
  have s9 := z9.out
  have s10 := z10.out
  have s11 := z11.out
  obtain ⟨ka, hka⟩ := HA12.split (by have := HK.out.1; omega) (fun f hf => by have := HK.out.2 f hf; omega)
  obtain ⟨kg, hkg⟩ := HG12.split (by have := HK.out.1; omega) (fun f hf => by have := HK.out.2 f hf; omega)
  obtain ⟨kc, hkc⟩ := HC12.split (by have := HO.out.1; omega) (fun f hf => by have := HO.out.2 f hf; omega)
  obtain ⟨own0, hD, hiv⟩ := door_of (W := W12) (vs := [.slice pa K.length ca, .slice pg K.length cg, .slice pc O.length cc]) (kvss := [ka, kg, kc])
    (lo := fun i => if i = 0 then w1.heap.size else if i = 1 then w5.heap.size else w6.heap.size) (hi := fun i => if i = 0 then w2.heap.size else if i = 1 then w6.heap.size else w7.heap.size) rfl rfl
    (fun i v kvs hv hk => by
      match i, hv, hk with
      | 0, hv, hk => cases hv; cases hk; exact hka
      | 1, hv, hk => cases hv; cases hk; exact hkg
      | 2, hv, hk => cases hv; cases hk; exact hkc)
    (by simp; have := hka.len; have := hkg.len; have := hkc.len; omega)
    (fun i j hij hj => by
      match i, j, hij, hj with
      | 0, 1, _, _ => simp; omega
      | 0, 2, _, _ => simp; omega
      | 1, 2, _, _ => simp
      | 0, j + 3, _, h => omega
      | 1, j + 3, _, h => omega
      | i + 2, j, h1, h2 => omega
      | 1, 0, h, _ => omega
      | 1, 1, h, _ => omega
      | 0, 0, h, _ => omega)
    (gl := w11.heap.size) (by omega) hcl
    (fun i hi => by
      match i, hi with
      | 0, _ => simp; omega
      | 1, _ => simp; omega
      | 2, _ => simp; omega)
  have hout : ∀ b, (b < w1.heap.size ∨ (w2.heap.size ≤ b ∧ b < w5.heap.size)) → own0 b = none := fun b hb => by
    cases hh : own0 b with
    | none => rfl
    | some x =>
      exfalso
      obtain ⟨i, hi, h1, h2⟩ := hiv b x hh
      match i, hi, h1, h2 with
      | 0, _, h1, h2 => simp at h1 h2; omega
      | 1, _, h1, h2 => simp at h1 h2; omega
      | 2, _, h1, h2 => simp at h1 h2; omega
  refine (owned_any hD).mono ?_
  rintro r w13 ⟨rfl, own', hst⟩
  have B13 := Lib.hid (B12.trans (hst.below (B := W.heap.size) (by omega) fun b hb => hout b (.inl (by omega))))
  have HB13 := Lib.hid (HB12.heap hst.size fun b h1 h2 => hst.kept b (by omega) (hout b (.inr ⟨by omega, by omega⟩)) (by simp))
  clear hst hD hiv hout hka hkg hkc HA12 HB12 HG12 HC12 hcl hb12 B12 zz s1 s2 s3 s4 s5 s6 s7 s8 s9 s10 s11
  go_wp2_with (fail)
  refine (FKH.out w13).mono ?_
  rintro r w14 ⟨vl, rfl, hl, hb14⟩
  have B14 := Lib.hid (B13.out.trans (hb14.mono B13.out.size))
  have HB14 := Lib.hid (HB13.out.below hb14)
  have HL := Lib.hid hl
  clear hb14 hl HB13
  go_wp2_with (fail)
  refine (SAK.out _ _ _ _ vl vb w14 HL.out HB14.out).mono ?_
  rintro r w15 ⟨rfl, hb15⟩
  have B15 := Lib.hid (B14.out.trans (hb15.mono B14.out.size))
  clear hb15
  go_wp2
  all_goals
    go_ret
    exact ⟨by simp, B15.out⟩
end Go.Proofs.YtfoiaiblggapeaaGreatDoor.Fd
