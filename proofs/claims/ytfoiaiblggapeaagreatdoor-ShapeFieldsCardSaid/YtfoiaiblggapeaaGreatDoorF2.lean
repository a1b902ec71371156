/-
  The law's sameFields: two lists of the same fields are the same. Condition: they lie so.
-/
import Derived.Test.YtfoiaiblggapeaaGreatDoorF1
import Derived.Test.YtfoiaiblggapeaaGreatDoorV3
import Derived.Deep.QuietTactic
import Derived.BigQuiet
namespace Go.Proofs.YtfoiaiblggapeaaGreatDoor.Fd
open Go Go.RowKit Go.Proofs.Nu Go.Proofs.YtfoiaiblggapeaaGreatDoor.Va
attribute [local go_sem ↓] Go.wp_at_zero Go.wp_at_succ

theorem fbelow_drewN {n : Nat} {a b : World} (h : Below n a b) (q : Nat) : Below n a (b.drewN q) := ⟨h.os, h.tape, h.output, h.size, h.block⟩
theorem fcell_len (f : FT) (kv : Value) : (fcell f kv).length = 9 := rfl
theorem fcells_get : ∀ {fs : List FT} {kvs : List Value} {i : Nat} {f : FT} {kv : Value}, fs[i]? = some f → kvs[i]? = some kv → ∀ j, j < 9 → (fcells fs kvs)[i * 9 + j]? = (fcell f kv)[j]?
  | [], _, i, f, kv, h, _, _, _ => by simp at h
  | _ :: _, [], i, f, kv, _, h, _, _ => by simp at h
  | f0 :: fs, k0 :: kvs, 0, f, kv, h, h', j, hj => by
    simp at h h'
    subst h; subst h'
    rw [fcells, Nat.zero_mul, Nat.zero_add, List.getElem?_append_left (by rw [fcell_len]; exact hj)]
  | f0 :: fs, k0 :: kvs, i + 1, f, kv, h, h', j, hj => by
    rw [fcells, List.getElem?_append_right (by rw [fcell_len]; omega), fcell_len, show (i + 1) * 9 + j - 9 = i * 9 + j by omega]
    exact fcells_get (by simpa using h) (by simpa using h') j hj
/-- A field's nine cells. -/
structure At9 (w : World) (b o : Nat) (f : FT) (kv : Value) : Prop where
  name : w.cell? ⟨b, o, none⟩ = some (.string ⟨f.name.toArray⟩)
  type : w.cell? ⟨b, o + 1, none⟩ = some (.int .i64 f.type)
  kinds : w.cell? ⟨b, o + 2, none⟩ = some kv
  must : w.cell? ⟨b, o + 3, none⟩ = some (.bool f.must)
  dk : w.cell? ⟨b, o + 4, none⟩ = some (.int .i64 f.dk)
  dn : w.cell? ⟨b, o + 5, none⟩ = some (.int .u64 f.dn)
  dt : w.cell? ⟨b, o + 6, none⟩ = some (.string ⟨f.dt.toArray⟩)
  dl : w.cell? ⟨b, o + 7, none⟩ = some (.slice none 0 0)
  de : w.cell? ⟨b, o + 8, none⟩ = some (.int .i64 0)
theorem RowC.heap {lo hi : Nat} {w w' : World} {sz n : Nat} {v : Value} {cs : List Value} (h : RowC lo hi w sz v n cs) (hz : w.heap.size ≤ w'.heap.size) (he : ∀ b, lo ≤ b → b < hi → w'.heap[b]? = w.heap[b]?) : RowC lo hi w' sz v n cs := by
  obtain ⟨b, off, c, h1, h2, h3, h3', h4, h5, h6⟩ := h
  exact ⟨b, off, c, h1, h2, h3, Nat.le_trans h3' hz, h4, there_heap h5 (he b h2 h3), fun j x hx => (World.cell?_of_block (a := ⟨b, _, none⟩) (he b h2 h3)).trans (h6 j x hx)⟩
theorem KsOwn.heap {lo hi : Nat} {w w' : World} {v : Value} {ks : List Int} (h : KsOwn lo hi w v ks) (hz : w.heap.size ≤ w'.heap.size) (he : ∀ b, lo ≤ b → b < hi → w'.heap[b]? = w.heap[b]?) : KsOwn lo hi w' v ks := by
  rcases h with h | ⟨h1, h2⟩
  · exact .inl h
  · exact .inr ⟨h1, h2.heap hz he⟩
theorem FsOwn.heap {lo hi : Nat} {w w' : World} {v : Value} {fs : List FT} (h : FsOwn lo hi w v fs) (hz : w.heap.size ≤ w'.heap.size) (he : ∀ b, lo ≤ b → b < hi → w'.heap[b]? = w.heap[b]?) : FsOwn lo hi w' v fs := by
  rcases h with h | ⟨h1, kvs, h2, h3, h4, h5⟩
  · exact .inl h
  · exact .inr ⟨h1, kvs, h2, h3.heap hz he, fun i f kv hf hk => (h4 i f kv hf hk).heap hz he, h5⟩
theorem RowC.hi_le {lo hi : Nat} {w : World} {sz n : Nat} {v : Value} {cs : List Value} (h : RowC lo hi w sz v n cs) : hi ≤ w.heap.size := by
  obtain ⟨b, off, c, h1, h2, h3, h3', _⟩ := h
  exact h3'
theorem KsOwn.below {lo hi : Nat} {w w' : World} {v : Value} {ks : List Int} (h : KsOwn lo hi w v ks) (hb : Below w.heap.size w w') : KsOwn lo hi w' v ks := by
  rcases h with h | ⟨h1, h2⟩
  · exact .inl h
  · exact .inr ⟨h1, h2.heap hb.size fun b _ hlt => hb.block b (Nat.lt_of_lt_of_le hlt h2.hi_le)⟩
theorem FsOwn.below {lo hi : Nat} {w w' : World} {v : Value} {fs : List FT} (h : FsOwn lo hi w v fs) (hb : Below w.heap.size w w') : FsOwn lo hi w' v fs := by
  rcases h with h | ⟨h1, kvs, h2, h3, h4⟩
  · exact .inl h
  · exact FsOwn.heap (.inr ⟨h1, kvs, h2, h3, h4⟩) hb.size fun b _ hlt => hb.block b (Nat.lt_of_lt_of_le hlt h3.hi_le)
theorem FsOwn.view {lo hi : Nat} {w : World} {v : Value} {fs : List FT} (h : FsOwn lo hi w v fs) : ∃ p c, v = .slice p fs.length c ∧ ∀ i f, fs[i]? = some f → ∃ b off kv, p = some ⟨b, off, none⟩ ∧ b < w.heap.size ∧ At9 w b (off + i * 9) f kv ∧ KsOwn lo hi w kv f.kinds := by
  rcases h with ⟨rfl, rfl⟩ | ⟨_, kvs, h2, ⟨b, off, c, rfl, _, hlt, hhi, _, _, hr⟩, h4, _⟩
  · exact ⟨none, 0, rfl, fun i f hf => by simp at hf⟩
  · refine ⟨_, c, rfl, fun i f hf => ?_⟩
    have hi := (List.getElem?_eq_some_iff.1 hf).1
    obtain ⟨kv, hkv⟩ : ∃ kv, kvs[i]? = some kv := ⟨_, List.getElem?_eq_getElem (by omega)⟩
    have hg : ∀ j x, j < 9 → (fcell f kv)[j]? = some x → w.cell? ⟨b, off + i * 9 + j, none⟩ = some x := fun j x hj hx => by
      rw [Nat.add_assoc]
      exact hr _ x ((fcells_get hf hkv j hj).trans hx)
    exact ⟨b, off, kv, rfl, Nat.lt_of_lt_of_le hlt hhi, ⟨hg 0 _ (by omega) rfl, hg 1 _ (by omega) rfl, hg 2 _ (by omega) rfl, hg 3 _ (by omega) rfl, hg 4 _ (by omega) rfl, hg 5 _ (by omega) rfl, hg 6 _ (by omega) rfl, hg 7 _ (by omega) rfl, hg 8 _ (by omega) rfl⟩, h4 i f kv hf hkv⟩
theorem KsOwn.view {lo hi : Nat} {w : World} {v : Value} {ks : List Int} (h : KsOwn lo hi w v ks) : ∃ p c, v = .slice p ks.length c ∧ ∀ j k, ks[j]? = some k → ∃ b off, p = some ⟨b, off, none⟩ ∧ b < w.heap.size ∧ w.cell? ⟨b, off + j, none⟩ = some (.int .i64 k) := by
  rcases h with ⟨rfl, rfl⟩ | ⟨_, b, off, c, rfl, _, hlt, hhi, _, _, hr⟩
  · exact ⟨none, 0, rfl, fun j k hk => by simp at hk⟩
  · exact ⟨_, c, rfl, fun j k hk => ⟨b, off, rfl, Nat.lt_of_lt_of_le hlt hhi, hr j _ (by rw [List.getElem?_map, hk]; rfl)⟩⟩
theorem eqT_refl_dflt (f : FT) : eqT f.dflt f.dflt = true := by
  unfold FT.dflt
  rw [eqT_mk]
  simp [VT.kind, VT.num, VT.text, VT.elem, VT.list, eqTs]
theorem dflt_equal (f : FT) (w : World) : Calls Tryz.prog 21 #[.agg #[.int .i64 f.dk, .int .u64 f.dn, .string ⟨f.dt.toArray⟩, .slice none 0 0, .int .i64 0], .agg #[.int .i64 f.dk, .int .u64 f.dn, .string ⟨f.dt.toArray⟩, .slice none 0 0, .int .i64 0]] w fun r w' => r = .returned (.bool true) ∧ Below w.heap.size w w' := by
  have := equal_raw 1 0 f.dk f.dn ⟨f.dt.toArray⟩ 0 [] (.slice none 0 0) f.dk f.dn ⟨f.dt.toArray⟩ 0 [] (.slice none 0 0) w (.inl ⟨rfl, _, _, rfl⟩) (.inl ⟨rfl, _, _, rfl⟩) (Nat.zero_le _)
  have e : eqT (.mk f.dk f.dn ⟨f.dt.toArray⟩ 0 []) (.mk f.dk f.dn ⟨f.dt.toArray⟩ 0 []) = true := eqT_refl_dflt f
  rwa [e] at this

set_option maxRecDepth 100000 in
set_option maxHeartbeats 4000000 in
theorem same_any {lo hi lo' hi' : Nat} {fs : List FT} {v v' : Value} {w : World} (h : FsOwn lo hi w v fs) (h' : FsOwn lo' hi' w v' fs) (hfs : fs.length ≤ 1000) (hks : ∀ f ∈ fs, f.kinds.length ≤ 1000) :
    Calls Tryz.prog 12 #[v, v'] w fun r w' => r = .returned (.bool true) ∧ Below w.heap.size w w' := by
  have H := Lib.hid h
  have H' := Lib.hid h'
  obtain ⟨p, c, rfl, hu⟩ := h.view
  obtain ⟨p', c', rfl, hu'⟩ := h'.view
  clear hu hu'
  have HKS := Lib.hid hks
  clear h h' hks
  obtain ⟨m, hm⟩ : ∃ m, fs.length = m := ⟨_, rfl⟩
  have Hm := Lib.hid hm
  rw [hm] at H H' hfs ⊢
  clear hm
  go_enter Tryz.func12, Tryz.ntmps12
  go_wp2
  go_loopw [5] (fun i wr => ∃ (j : Nat), i = .int .i64 j ∧ j ≤ m ∧ Hid (Below w.heap.size w wr)) (fun i _ => m - (intOf i).toNat)
  case atStart => exact ⟨0, rfl, Nat.zero_le _, Below.refl _ _⟩
  case round =>
    obtain ⟨j, rfl, hj, HB⟩ := hrel
    by_cases hlt : j < m
    · obtain ⟨f, hf⟩ : ∃ f, fs[j]? = some f := ⟨_, List.getElem?_eq_getElem (by rw [Hm.out]; exact hlt)⟩
      obtain ⟨q, d, e1, hv⟩ := (H.out.below HB.out).view
      obtain ⟨q', d', e1', hv'⟩ := (H'.out.below HB.out).view
      obtain ⟨b, off, kv, rfl, hbl, ⟨a0, a1, a2, a3, a4, a5, a6, a7, a8⟩, hk⟩ := hv j f hf
      obtain ⟨b', off', kv', rfl, hbl', ⟨z0, z1, z2, z3, z4, z5, z6, z7, z8⟩, hk'⟩ := hv' j f hf
      rw [Hm.out] at e1 e1'
      cases e1
      cases e1'
      have hkl := HKS.out f (List.mem_of_getElem? hf)
      have HK := Lib.hid hk
      have HK' := Lib.hid hk'
      obtain ⟨kp, kc, rfl, hu⟩ := hk.view
      obtain ⟨kp', kc', rfl, hu'⟩ := hk'.view
      clear hu hu'
      have hi0 : (0 : Int) ≤ (j : Int) := by omega
      have hi1 : (j : Int) < (m : Int) := by omega
      obtain ⟨km, hkm⟩ : ∃ km, f.kinds.length = km := ⟨_, rfl⟩
      have Hkm := Lib.hid hkm
      rw [hkm] at hkl a2 z2 HK HK'
      have HALL : Hid (∀ w', Below wr.heap.size wr w' → (Below wr.heap.size wr w' ∧ w'.cell? ⟨b, off + j * 9, none⟩ = some (.string ⟨f.name.toArray⟩) ∧ w'.cell? ⟨b, off + j * 9 + 1, none⟩ = some (.int .i64 f.type) ∧ w'.cell? ⟨b, off + j * 9 + 2, none⟩ = some (.slice kp km kc) ∧ w'.cell? ⟨b, off + j * 9 + 3, none⟩ = some (.bool f.must) ∧
          w'.cell? ⟨b, off + j * 9 + 4, none⟩ = some (.int .i64 f.dk) ∧ w'.cell? ⟨b, off + j * 9 + 5, none⟩ = some (.int .u64 f.dn) ∧ w'.cell? ⟨b, off + j * 9 + 6, none⟩ = some (.string ⟨f.dt.toArray⟩) ∧ w'.cell? ⟨b, off + j * 9 + 7, none⟩ = some (.slice none 0 0) ∧ w'.cell? ⟨b, off + j * 9 + 8, none⟩ = some (.int .i64 0) ∧
          w'.cell? ⟨b', off' + j * 9, none⟩ = some (.string ⟨f.name.toArray⟩) ∧ w'.cell? ⟨b', off' + j * 9 + 1, none⟩ = some (.int .i64 f.type) ∧ w'.cell? ⟨b', off' + j * 9 + 2, none⟩ = some (.slice kp' km kc') ∧ w'.cell? ⟨b', off' + j * 9 + 3, none⟩ = some (.bool f.must) ∧
          w'.cell? ⟨b', off' + j * 9 + 4, none⟩ = some (.int .i64 f.dk) ∧ w'.cell? ⟨b', off' + j * 9 + 5, none⟩ = some (.int .u64 f.dn) ∧ w'.cell? ⟨b', off' + j * 9 + 6, none⟩ = some (.string ⟨f.dt.toArray⟩) ∧ w'.cell? ⟨b', off' + j * 9 + 7, none⟩ = some (.slice none 0 0) ∧ w'.cell? ⟨b', off' + j * 9 + 8, none⟩ = some (.int .i64 0))) := fun w' h =>
        have k : ∀ b o, b < wr.heap.size → w'.cell? ⟨b, o, none⟩ = wr.cell? ⟨b, o, none⟩ := fun b o hb => h.cell (p := ⟨b, o, none⟩) hb
        ⟨h, (k _ _ hbl).trans a0, (k _ _ hbl).trans a1, (k _ _ hbl).trans a2, (k _ _ hbl).trans a3, (k _ _ hbl).trans a4, (k _ _ hbl).trans a5, (k _ _ hbl).trans a6, (k _ _ hbl).trans a7, (k _ _ hbl).trans a8,
          (k _ _ hbl').trans z0, (k _ _ hbl').trans z1, (k _ _ hbl').trans z2, (k _ _ hbl').trans z3, (k _ _ hbl').trans z4, (k _ _ hbl').trans z5, (k _ _ hbl').trans z6, (k _ _ hbl').trans z7, (k _ _ hbl').trans z8⟩
      clear hv hv' hk hk' hf a0 a1 a2 a3 a4 a5 a6 a7 a8 z0 z1 z2 z3 z4 z5 z6 z7 z8 hkm
      go_wp2
      go_region_held3 (fun w' => Below wr.heap.size wr w' ∧ w'.cell? ⟨b, off + j * 9 + 4, none⟩ = some (.int .i64 f.dk) ∧ w'.cell? ⟨b, off + j * 9 + 5, none⟩ = some (.int .u64 f.dn) ∧ w'.cell? ⟨b, off + j * 9 + 6, none⟩ = some (.string ⟨f.dt.toArray⟩) ∧ w'.cell? ⟨b, off + j * 9 + 7, none⟩ = some (.slice none 0 0) ∧ w'.cell? ⟨b, off + j * 9 + 8, none⟩ = some (.int .i64 0) ∧
          w'.cell? ⟨b', off' + j * 9 + 4, none⟩ = some (.int .i64 f.dk) ∧ w'.cell? ⟨b', off' + j * 9 + 5, none⟩ = some (.int .u64 f.dn) ∧ w'.cell? ⟨b', off' + j * 9 + 6, none⟩ = some (.string ⟨f.dt.toArray⟩) ∧ w'.cell? ⟨b', off' + j * 9 + 7, none⟩ = some (.slice none 0 0) ∧ w'.cell? ⟨b', off' + j * 9 + 8, none⟩ = some (.int .i64 0))
        (first
          | (obtain ⟨x, _, _, _, _, x4, x5, x6, x7, x8, _, _, _, _, y4, y5, y6, y7, y8⟩ := HALL.out _ (Below.refl _ _).drew; with_reducible exact ⟨x, x4, x5, x6, x7, x8, y4, y5, y6, y7, y8⟩)
          | (obtain ⟨x, _, _, _, _, x4, x5, x6, x7, x8, _, _, _, _, y4, y5, y6, y7, y8⟩ := HALL.out _ (((Below.refl _ _).drew).trans hb2); with_reducible exact ⟨x, x4, x5, x6, x7, x8, y4, y5, y6, y7, y8⟩)
          | (obtain ⟨x, _, _, _, _, x4, x5, x6, x7, x8, _, _, _, _, y4, y5, y6, y7, y8⟩ := HALL.out _ (Below.refl _ _); with_reducible exact ⟨x, x4, x5, x6, x7, x8, y4, y5, y6, y7, y8⟩)
          | assumption)
        ((go_at_call 21; refine (dflt_equal f wr.drew).mono ?_; rintro r w2 ⟨hr, hb2⟩; subst hr; replace hb2 : Below wr.heap.size wr.drew w2 := hb2))
      have HB2 : Hid (Below w.heap.size w w2) := HB.out.trans (((Below.refl _ _).drew.trans hb2).mono HB.out.size)
      obtain ⟨g0, x0, x1, x2, x3, x4, x5, x6, x7, x8, y0, y1, y2, y3, y4, y5, y6, y7, y8⟩ := HALL.out _ (((Below.refl _ _).drew).trans hb2)
      clear g0 x4 x5 x6 x7 x8 y4 y5 y6 y7 y8
      go_wp2
      go_quiet (fail)
      have HK2 := Lib.hid (HK.out.below (((Below.refl _ _).drew).trans hb2))
      have HK2' := Lib.hid (HK'.out.below (((Below.refl _ _).drew).trans hb2))
      clear HALL HK HK' x0 x1 x3 y0 y1 y3
      obtain ⟨kl, kl0⟩ : ∃ l : List Int, f.kinds = l := ⟨_, rfl⟩
      rw [kl0] at HK2 HK2' Hkm
      clear kl0
      go_wp2
      go_loopw [7] (fun kv wq => ∃ (k : Nat), kv = .int .i64 k ∧ k ≤ km ∧ ∃ q, wq = w2.drewN q) (fun kv _ => km - (intOf kv).toNat)
      case atStart => exact ⟨0, rfl, Nat.zero_le _, nq, rfl⟩
      case round =>
        obtain ⟨k, rfl, hk, q, rfl⟩ := hrel
        by_cases hltk : k < km
        · obtain ⟨y, hy⟩ : ∃ y, kl[k]? = some y := ⟨_, List.getElem?_eq_getElem (by rw [Hkm.out]; exact hltk)⟩
          obtain ⟨q1, d1, e1, hv⟩ := HK2.out.view
          obtain ⟨q2, d2, e2, hv'⟩ := HK2'.out.view
          obtain ⟨g, o, rfl, _, c1⟩ := hv k y hy
          obtain ⟨g', o', rfl, _, c2⟩ := hv' k y hy
          simp only [Value.slice.injEq] at e1 e2
          obtain ⟨rfl, _, _⟩ := e1
          obtain ⟨rfl, _, _⟩ := e2
          have hk0 : (0 : Int) ≤ (k : Int) := by omega
          have hk1 : (k : Int) < (km : Int) := by omega
          clear hv hv' hy
          go_wp2
          go_quiet (fail)
          go_wp2
          go_roundw
          case rel => exact ⟨k + 1, by go_num, by omega, _, rfl⟩
          case measure => simp [intOf]; omega
        · obtain rfl : k = km := by omega
          go_wp2
          go_roundw
          case rel => exact ⟨j + 1, by go_num, by omega, fbelow_drewN HB2.out _⟩
          case measure => simp [intOf]; omega
    · obtain rfl : j = m := by omega
      go_wp2
      go_ret
      exact ⟨rfl, HB.out⟩
end Go.Proofs.YtfoiaiblggapeaaGreatDoor.Fd
