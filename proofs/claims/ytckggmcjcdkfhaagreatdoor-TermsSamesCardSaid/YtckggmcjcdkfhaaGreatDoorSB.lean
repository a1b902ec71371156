/-
  slices.EqualFunc of states by terms.Same, by levels; terms.Same. No condition but that they lie so.
-/
import Derived.Test.YtckggmcjcdkfhaaGreatDoorSA
namespace Go.Proofs.YtckggmcjcdkfhaaGreatDoor.Va
open Go Go.RowKit Go.Proofs.Nu
attribute [-go_sem] Go.Instr.loadAt Go.Instr.storeAt

abbrev zero19 : Array Value := #[.int .i64 0, .int .i64 0, .int .i64 0, .string ⟨#[]⟩, .string ⟨#[]⟩, .int .i64 0, .int .u64 0, .string ⟨#[]⟩, .slice none 0 0, .int .i64 0, .bool false, .bool false, .int .i64 0, .int .u64 0, .string ⟨#[]⟩, .slice none 0 0, .int .i64 0, .string ⟨#[]⟩, .slice none 0 0]
theorem box_state (v : World) (s : ST) (a1 a2 a3 : Option Addr) (n1 c1 n2 c2 n3 c3 : Nat) : ∃ V1 V2, v.alloc (.cells zero19 30) = V1 ∧ (Instr.storeAt 30 (.pointer (some ⟨v.heap.size, 0, none⟩)) (s.agg (.slice a1 n1 c1) (.slice a2 n2 c2) (.slice a3 n3 c3))).run Tryz.prog V1 = .ok () V2 ∧
    Cells V2 v.heap.size 0 (s.cells (.slice a1 n1 c1) (.slice a2 n2 c2) (.slice a3 n3 c3)) ∧ Below v.heap.size v V2 ∧ V2.heap.size = v.heap.size + 1 := by
  have hz : Cells (v.alloc (.cells zero19 30)) v.heap.size 0 ((zeroS 0).cells nilV nilV nilV) := cells_new (cs := (zeroS 0).cells nilV nilV nilV)
  have hh := cells_has hz
  have hf : ∀ j, (v.alloc (.cells zero19 30)).frozen? ⟨v.heap.size, j, none⟩ = false := fun j => World.frozen?_alloc_new _ _ _ _
  refine ⟨_, _, rfl, store_state (s := s) (hh.there hf (o := 0) (n := 19) (Nat.le_refl _)), hh.setC (Nat.le_refl _), setCells_below (Nat.le_refl _) _ _ _ ((Below.refl _ _).alloc (Nat.le_refl _) _), ?_⟩
  rw [setCells_size (v.alloc (.cells zero19 30)), heap_alloc_size]

set_option maxRecDepth 100000 in
set_option maxHeartbeats 4000000 in
theorem peqfs : ∀ n, PsS n := by
  intro n
  induction n with
  | zero => intro B N ss ss' lv lv' w h; exact h.elim
  | succ n ih =>
    intro B N ss ss' lv lv' w hl hl' hB
    have HS := Lib.hid ih
    have HL := Lib.hid hl
    have HL' := Lib.hid hl'
    obtain ⟨p, c, rfl⟩ := hl.slice
    obtain ⟨p', c', rfl⟩ := hl'.slice
    have hlen : ss.length ≤ 9223372036854775807 := hl.len
    have hlen' : ss'.length ≤ 9223372036854775807 := hl'.len
    clear hl hl' ih
    by_cases hll : ss.length = ss'.length
    · obtain ⟨m, hm⟩ : ∃ m, ss.length = m := ⟨_, rfl⟩
      have hm' : ss'.length = m := by omega
      have Hm := Lib.hid hm
      have Hm' := Lib.hid hm'
      rw [hm] at hlen HL ⊢
      rw [hm'] at HL' ⊢
      clear hm hm' hll hlen'
      go_enter Tryz.func52, Tryz.ntmps52
      go_wp2
      go_loopw [17] (fun i wr => ∃ (j : Nat), i = .int .i64 j ∧ j ≤ m ∧ Hid (eqSs (ss.drop j) (ss'.drop j) = eqSs ss ss') ∧ Hid (Below w.heap.size w wr)) (fun i _ => m - (intOf i).toNat)
      case atStart => exact ⟨0, rfl, Nat.zero_le _, rfl, Below.refl _ _⟩
      case round =>
        obtain ⟨j, rfl, hj, HQ, HG⟩ := hrel
        by_cases hlt : j < m
        · rcases HL.out with ⟨h0, _⟩ | ⟨b, off, c0, hp, hbB, _, hel⟩
          · exfalso; have := Hm.out; rw [h0] at this; simp at this; omega
          rcases HL'.out with ⟨h0, _⟩ | ⟨b', off', c0', hp', hbB', _, hel'⟩
          · exfalso; have := Hm'.out; rw [h0] at this; simp at this; omega
          rw [Hm.out] at hp
          rw [Hm'.out] at hp'
          cases hp
          cases hp'
          obtain ⟨t, ht⟩ : ∃ t, ss[j]? = some t := ⟨_, List.getElem?_eq_getElem (by rw [Hm.out]; exact hlt)⟩
          obtain ⟨t', ht'⟩ : ∃ t, ss'[j]? = some t := ⟨_, List.getElem?_eq_getElem (by rw [Hm'.out]; exact hlt)⟩
          obtain ⟨tf, il, al, lv, hc, hi, ha, hl⟩ := hel j t ht
          obtain ⟨tf', il', al', lv', hc', hi', ha', hl'⟩ := hel' j t' ht'
          obtain ⟨pi, ci, rfl⟩ := hi.slice
          obtain ⟨pa, ca, rfl⟩ := ha.slice
          obtain ⟨pl, cl, rfl⟩ := hl.slice
          obtain ⟨pi', ci', rfl⟩ := hi'.slice
          obtain ⟨pa', ca', rfl⟩ := ha'.slice
          obtain ⟨pl', cl', rfl⟩ := hl'.slice
          have hbw : Below B w wr := HG.out.mono hB
          have hsz := HG.out.size
          have hst := Lib.hid (eqSs_step ht ht')
          have hi0 : (0 : Int) ≤ (j : Int) := by omega
          have hi1 : (j : Int) < (m : Int) := by omega
          have l1 := load_state (hc.below hbw hbB)
          obtain ⟨V1, V2, hV1, hs1, k1, kb1, kz1⟩ := box_state wr t pi pa pl t.info.list.length ci t.ann.list.length ca t.inner.length cl
          have l2 := load_state (w := V2) (hc'.below (hbw.trans (kb1.mono (by omega))) hbB')
          obtain ⟨V3, V4, hV3, hs2, k2, kb2, kz2⟩ := box_state V2 t' pi' pa' pl' t'.info.list.length ci' t'.ann.list.length ca' t'.inner.length cl'
          have l3 := load_state (w := V4) (k1.below kb2 (by omega))
          have l4 := load_state (w := V4) k2
          have hb4 : Below wr.heap.size wr V4 := kb1.trans (kb2.mono (by omega))
          obtain ⟨X, hX⟩ : ∃ X, eqS t t' = X := ⟨_, rfl⟩
          rw [hX] at hst
          have HC : Hid (Calls Tryz.prog 12 #[t.agg (.slice pi t.info.list.length ci) (.slice pa t.ann.list.length ca) (.slice pl t.inner.length cl), t'.agg (.slice pi' t'.info.list.length ci') (.slice pa' t'.ann.list.length ca') (.slice pl' t'.inner.length cl')] V4 fun r w' => r = .returned (.bool X) ∧ Below V4.heap.size V4 w') := by
            have hb : Below B w V4 := hbw.trans (hb4.mono (by omega))
            have := psame_of HS.out B N t _ _ _ t' _ _ _ V4 tf tf' (hi.below hb) (ha.below hb) (hl.below hb) (hi'.below hb) (ha'.below hb) (hl'.below hb) (by have := hb4.size; omega)
            rw [hX] at this
            exact this
          have HB4 := Lib.hid (HG.out.trans (hb4.mono hsz))
          have hz4 := Lib.hid hb4.size
          clear hel hel' hc hc' hi ha hl hi' ha' hl' ht ht' tf tf' hX hbw k1 kb1 kz1 k2 kb2 kz2 hb4
          cases X with
          | true =>
            have hst2 : Hid (eqSs (ss.drop (j + 1)) (ss'.drop (j + 1)) = eqSs ss ss') := by
              show eqSs _ _ = _; rw [← HQ.out, hst.out, Bool.true_and]
            clear hst
            go_wp2_with (go_at_call 12; refine HC.out.mono ?_; rintro r w2 ⟨rfl, hb5⟩)
            go_roundw
            case rel => exact ⟨j + 1, by go_num, by omega, hst2.out, HB4.out.trans (hb5.mono HB4.out.size)⟩
            case measure => simp [intOf]; omega
          | false =>
            have hst2 : Hid (false = eqSs ss ss') := by
              show false = _; rw [← HQ.out, hst.out, Bool.false_and]
            clear hst
            go_wp2_with (go_at_call 12; refine HC.out.mono ?_; rintro r w2 ⟨rfl, hb5⟩)
            go_ret
            exact ⟨ret_bool hst2.out, HB4.out.trans (hb5.mono HB4.out.size)⟩
        · obtain rfl : j = m := by omega
          go_wp2
          go_ret
          exact ⟨ret_bool (by rw [← HQ.out, ← Hm.out, eqSs_end (by rw [Hm.out, Hm'.out])]), HG.out⟩
    · have HE := Lib.hid (eqSs_len hll)
      have hb : ((ss.length : Int) != (ss'.length : Int)) = true := by simp; omega
      have Hll := Lib.hid hll
      clear hll
      go_enter Tryz.func52, Tryz.ntmps52
      go_wp2
      go_ret
      exact ⟨ret_bool HE.out.symm, Below.refl _ _⟩
theorem psame_any {n B N : Nat} {s t : ST} {v v' : Value} {w : World} (h : SVAt B N w n v s) (h' : SVAt B N w n v' t) (hB : B ≤ w.heap.size) :
    Calls Tryz.prog 12 #[v, v'] w fun r w' => r = .returned (.bool (eqS s t)) ∧ Below w.heap.size w w' := by
  obtain ⟨hf, il, al, lv, rfl, h1, h2, h3⟩ := h
  obtain ⟨hf', il', al', lv', rfl, h1', h2', h3'⟩ := h'
  exact psame_of (peqfs n) B N s il al lv t il' al' lv' w hf hf' h1 h2 h3 h1' h2' h3' hB
end Go.Proofs.YtckggmcjcdkfhaaGreatDoor.Va
