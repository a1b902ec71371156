/-
  The reference's Equal: when two values are the same. No condition but that the values lie so.
-/
import Derived.Test.YtfoiaiblggapeaaGreatDoorV2
import Derived.Test.YtfoiaiblggapeaaGreatDoorNuEq
import Derived.Deep.RegionHeld3
import Derived.Deep.DrawnRows
namespace Go.Proofs.YtfoiaiblggapeaaGreatDoor.Va
open Go Go.RowKit Go.Proofs.Nu
attribute [local go_sem ↓] Go.wp_at_zero Go.wp_at_succ

theorem len_of_bne {a b : Nat} (h : ((a : Int) != (b : Int)) = false) : a = b := by simp at h; omega
set_option maxRecDepth 100000 in
set_option maxHeartbeats 2000000 in
theorem equal_raw : ∀ (N B : Nat) (k m : Int) (s : ByteArray) (e : Int) (l : List VT) (lv : Value) (k' m' : Int) (s' : ByteArray) (e' : Int) (l' : List VT) (lv' : Value) (w : World), LAt B w N lv l → LAt B w N lv' l' → B ≤ w.heap.size →
    Calls Tryz.prog 21 #[.agg #[.int .i64 k, .int .u64 m, .string s, lv, .int .i64 e], .agg #[.int .i64 k', .int .u64 m', .string s', lv', .int .i64 e']] w fun r w' => r = .returned (.bool (eqT (.mk k m s e l) (.mk k' m' s' e' l'))) ∧ Below w.heap.size w w' := by
  intro N
  induction N with
  | zero => intro B k m s e l lv k' m' s' e' l' lv' w h; exact h.elim
  | succ N ih =>
    intro B k m s e l lv k' m' s' e' l' lv' w hl hl' hB
    have HL := Lib.hid hl
    have HL' := Lib.hid hl'
    obtain ⟨p, c, rfl⟩ := hl.slice
    obtain ⟨p', c', rfl⟩ := hl'.slice
    have hlen : l.length ≤ 9223372036854775807 := hl.len
    have hlen' : l'.length ≤ 9223372036854775807 := hl'.len
    clear hl hl'
    by_cases hhd : headT (.mk k m s e l) (.mk k' m' s' e' l')
    · have HE := Lib.hid (eqT_head hhd)
      obtain ⟨rfl, rfl, rfl, rfl, hll⟩ := hhd
      have hll : l.length = l'.length := hll
      simp only [VT.kind, VT.num, VT.text, VT.elem, VT.list] at HE ⊢
      obtain ⟨R, hR⟩ : ∃ R, eqT (.mk k m s e l) (.mk k m s e l') = R := ⟨_, rfl⟩
      rw [hR] at HE ⊢
      clear hR
      obtain ⟨n, hn⟩ : ∃ n, l.length = n := ⟨_, rfl⟩
      have hn' : l'.length = n := by omega
      have Hn := Lib.hid hn
      have Hn' := Lib.hid hn'
      rw [hn] at hlen HL ⊢
      rw [hn'] at HL' ⊢
      clear hll hlen' hn hn'
      go_enter Tryz.func21, Tryz.ntmps21
      go_wp2
      obtain ⟨W1, hW1⟩ : ∃ W1, (w.alloc (.cells #[.int .i64 k, .int .u64 m, .string s, .slice p n c, .int .i64 e] 42)).alloc (.cells #[.int .i64 k, .int .u64 m, .string s, .slice p' n c', .int .i64 e] 42) = W1 := ⟨_, rfl⟩
      have hz1 : W1.heap.size = w.heap.size + 2 := by rw [← hW1]; simp
      have hc1 : W1.cell? ⟨w.heap.size, 3, none⟩ = some (.slice p n c) := by rw [← hW1]; simp
      have hc2 : W1.cell? ⟨w.heap.size + 1, 3, none⟩ = some (.slice p' n c') := by rw [← hW1]; simp
      have hb1 : Below w.heap.size w W1 := by rw [← hW1]; exact ((Below.refl _ _).alloc (Nat.le_refl _) _).alloc (by simp) _
      rw [hW1]
      clear hW1
      go_loopw [5] (fun i wr => ∃ (j : Nat), i = .int .i64 j ∧ j ≤ n ∧ Hid (eqTs (l.drop j) (l'.drop j) = R) ∧ Below (w.heap.size + 2) W1 wr) (fun i _ => n - (intOf i).toNat)
      case atStart => exact ⟨0, rfl, Nat.zero_le _, HE.out.symm, Below.refl _ _⟩
      case round =>
        obtain ⟨j, rfl, hj, HQ, hb⟩ := hrel
        have d1 : wr.cell? ⟨w.heap.size, 3, none⟩ = some (.slice p n c) := (hb.cell (p := ⟨w.heap.size, 3, none⟩) (by simp)).trans hc1
        have d2 : wr.cell? ⟨w.heap.size + 1, 3, none⟩ = some (.slice p' n c') := (hb.cell (p := ⟨w.heap.size + 1, 3, none⟩) (by simp)).trans hc2
        have hbw : Below w.heap.size w wr := hb1.trans (hb.mono (by omega))
        by_cases hlt : j < n
        · rcases HL.out with ⟨h0, _⟩ | ⟨b, off, c0, hp, hbB, _, hel⟩
          · rw [← Hn.out, h0] at hlt; exact absurd hlt (by simp)
          rcases HL'.out with ⟨h0, _⟩ | ⟨b', off', c0', hp', hbB', _, hel'⟩
          · rw [← Hn'.out, h0] at hlt; exact absurd hlt (by simp)
          rw [Hn.out] at hp
          rw [Hn'.out] at hp'
          cases hp
          cases hp'
          obtain ⟨t, ht⟩ : ∃ t, l[j]? = some t := ⟨_, List.getElem?_eq_getElem (by rw [Hn.out]; exact hlt)⟩
          obtain ⟨t', ht'⟩ : ∃ t, l'[j]? = some t := ⟨_, List.getElem?_eq_getElem (by rw [Hn'.out]; exact hlt)⟩
          obtain ⟨hf, lv, hat, hl⟩ := hel j t ht
          obtain ⟨hf', lv', hat', hl'⟩ := hel' j t' ht'
          obtain ⟨e0, e1, e2, e3, e4⟩ := hat.below (hbw.mono hB) hbB
          obtain ⟨f0, f1, f2, f3, f4⟩ := hat'.below (hbw.mono hB) hbB'
          have hlH := Lib.hid (hl.below (hbw.mono hB))
          have hlH' := Lib.hid (hl'.below (hbw.mono hB))
          have hzw : w.heap.size + 2 ≤ wr.heap.size := by have := hb.size; omega
          have hst := Lib.hid (eqTs_step ht ht')
          have hi0 : (0 : Int) ≤ (j : Int) := by omega
          have hi1 : (j : Int) < (n : Int) := by omega
          have hb0 : b < w.heap.size := by omega
          have hb0' : b' < w.heap.size := by omega
          clear hel hl hat hel' hl' hat' ht ht'
          have HALL : Hid (∀ w', Below wr.heap.size wr w' → (Below wr.heap.size wr w' ∧ w'.cell? ⟨w.heap.size, 3, none⟩ = some (.slice (some ⟨b, off, none⟩) n c) ∧ w'.cell? ⟨w.heap.size + 1, 3, none⟩ = some (.slice (some ⟨b', off', none⟩) n c') ∧
              w'.cell? ⟨b, off + j * 5, none⟩ = some (.int .i64 t.kind) ∧ w'.cell? ⟨b, off + j * 5 + 1, none⟩ = some (.int .u64 t.num) ∧ w'.cell? ⟨b, off + j * 5 + 2, none⟩ = some (.string t.text) ∧ w'.cell? ⟨b, off + j * 5 + 3, none⟩ = some lv ∧ w'.cell? ⟨b, off + j * 5 + 4, none⟩ = some (.int .i64 t.elem) ∧
              w'.cell? ⟨b', off' + j * 5, none⟩ = some (.int .i64 t'.kind) ∧ w'.cell? ⟨b', off' + j * 5 + 1, none⟩ = some (.int .u64 t'.num) ∧ w'.cell? ⟨b', off' + j * 5 + 2, none⟩ = some (.string t'.text) ∧ w'.cell? ⟨b', off' + j * 5 + 3, none⟩ = some lv' ∧ w'.cell? ⟨b', off' + j * 5 + 4, none⟩ = some (.int .i64 t'.elem))) := fun w' h =>
            have k : ∀ b o, b < wr.heap.size → w'.cell? ⟨b, o, none⟩ = wr.cell? ⟨b, o, none⟩ := fun b o hb => h.cell (p := ⟨b, o, none⟩) hb
            ⟨h, (k _ _ (by omega)).trans d1, (k _ _ (by omega)).trans d2, (k _ _ (by omega)).trans e0, (k _ _ (by omega)).trans e1, (k _ _ (by omega)).trans e2, (k _ _ (by omega)).trans e3, (k _ _ (by omega)).trans e4, (k _ _ (by omega)).trans f0, (k _ _ (by omega)).trans f1, (k _ _ (by omega)).trans f2, (k _ _ (by omega)).trans f3, (k _ _ (by omega)).trans f4⟩
          obtain ⟨X, hX⟩ : ∃ X, eqT t t' = X := ⟨_, rfl⟩
          rw [hX] at hst
          have HX := Lib.hid hX
          clear hX
          go_wp2
          go_region_held3 (fun w' => Below wr.heap.size wr w' ∧ w'.cell? ⟨w.heap.size, 3, none⟩ = some (.slice (some ⟨b, off, none⟩) n c) ∧ w'.cell? ⟨w.heap.size + 1, 3, none⟩ = some (.slice (some ⟨b', off', none⟩) n c') ∧
              w'.cell? ⟨b, off + j * 5, none⟩ = some (.int .i64 t.kind) ∧ w'.cell? ⟨b, off + j * 5 + 1, none⟩ = some (.int .u64 t.num) ∧ w'.cell? ⟨b, off + j * 5 + 2, none⟩ = some (.string t.text) ∧ w'.cell? ⟨b, off + j * 5 + 3, none⟩ = some lv ∧ w'.cell? ⟨b, off + j * 5 + 4, none⟩ = some (.int .i64 t.elem) ∧
              w'.cell? ⟨b', off' + j * 5, none⟩ = some (.int .i64 t'.kind) ∧ w'.cell? ⟨b', off' + j * 5 + 1, none⟩ = some (.int .u64 t'.num) ∧ w'.cell? ⟨b', off' + j * 5 + 2, none⟩ = some (.string t'.text) ∧ w'.cell? ⟨b', off' + j * 5 + 3, none⟩ = some lv' ∧ w'.cell? ⟨b', off' + j * 5 + 4, none⟩ = some (.int .i64 t'.elem))
            (first
              | exact HALL.out _ (Below.refl _ _)
              | exact HALL.out _ (Below.refl _ _).drew
              | exact HALL.out _ (((Below.refl _ _).drew).trans hb2)
              | assumption)
            ((go_at_call 21; refine (ih B t.kind t.num t.text t.elem t.list lv t'.kind t'.num t'.text t'.elem t'.list lv' wr.drew (hlH.out.below (Below.refl _ _).drew) (hlH'.out.below (Below.refl _ _).drew) (by show B ≤ wr.heap.size; omega)).mono ?_; rintro r w2 ⟨hr, hb2⟩; rw [VT.eta, VT.eta, HX.out] at hr; subst hr; replace hb2 : Below wr.heap.size wr.drew w2 := hb2))
          have hb3 : Below (w.heap.size + 2) W1 w2 := hb.trans (((Below.refl _ _).drew.trans hb2).mono hzw)
          clear HALL
          cases X with
          | false =>
            go_wp2
            go_ret
            refine ⟨ret_bool ?_, hb1.trans (hb3.mono (by omega))⟩
            rw [← HQ.out, hst.out, Bool.false_and]
          | true =>
            go_wp2
            go_roundw
            case rel => exact ⟨j + 1, by go_num, by omega, by rw [← HQ.out, hst.out, Bool.true_and]; exact rfl, hb3⟩
            case measure => simp [intOf]; omega
        · obtain rfl : j = n := by omega
          go_wp2
          go_ret
          exact ⟨ret_bool (by rw [← HQ.out, ← Hn.out, eqTs_end (by rw [Hn.out, Hn'.out])]), hbw⟩
    · have HE := Lib.hid (eqT_not hhd)
      obtain ⟨R, hR⟩ : ∃ R, eqT (.mk k m s e l) (.mk k' m' s' e' l') = R := ⟨_, rfl⟩
      rw [hR] at HE ⊢
      clear hR
      have Hhd := Lib.hid hhd
      clear hhd
      go_enter Tryz.func21, Tryz.ntmps21
      go_wp2
      all_goals first
        | (go_ret; exact ⟨ret_bool HE.out.symm, ((Below.refl _ _).alloc (Nat.le_refl _) _).alloc (by simp) _⟩)
        | (exfalso; apply Hhd.out; exact ⟨by assumption, by assumption, toList_inj (by assumption), by assumption, len_of_bne (by assumption)⟩)
theorem equal_any {N B : Nat} {t t' : VT} {v v' : Value} {w : World} (h : VAt B w N v t) (h' : VAt B w N v' t') (hB : B ≤ w.heap.size) :
    Calls Tryz.prog 21 #[v, v'] w fun r w' => r = .returned (.bool (eqT t t')) ∧ Below w.heap.size w w' := by
  obtain ⟨_, lv, rfl, hl⟩ := h
  obtain ⟨_, lv', rfl, hl'⟩ := h'
  have := equal_raw N B t.kind t.num t.text t.elem t.list lv t'.kind t'.num t'.text t'.elem t'.list lv' w hl hl' hB
  rwa [VT.eta, VT.eta] at this
end Go.Proofs.YtfoiaiblggapeaaGreatDoor.Va
