/-
  value.Equal and slices.EqualFunc: when two values are the same. No condition but that the values lie so.
-/
import Derived.Test.YtckggmcjcdkfhaaGreatDoorO2
namespace Go.Proofs.YtckggmcjcdkfhaaGreatDoor.Va
open Go Go.RowKit Go.Proofs.Nu

abbrev eqFn : Value := .func (.func 51) #[] #[]
def EqS (N : Nat) : Prop := ∀ (B : Nat) (lv lv' : Value) (l l' : List VT) (w : World), LAt B w N lv l → LAt B w N lv' l' → B ≤ w.heap.size →
    Calls Tryz.prog 97 #[lv, lv', eqFn] w fun e w' => e = .returned (.bool (eqTs l l')) ∧ Grows w w'

set_option maxRecDepth 100000 in
set_option maxHeartbeats 2000000 in
theorem peq_of {N : Nat} (hS : EqS N) (B : Nat) (k m : Int) (s : ByteArray) (e : Int) (l : List VT) (lv : Value) (k' m' : Int) (s' : ByteArray) (e' : Int) (l' : List VT) (lv' : Value) (w : World) (hl : LAt B w N lv l) (hl' : LAt B w N lv' l') (hB : B ≤ w.heap.size) :
    Calls Tryz.prog 51 #[.agg #[.int .i64 k, .int .u64 m, .string s, lv, .int .i64 e], .agg #[.int .i64 k', .int .u64 m', .string s', lv', .int .i64 e']] w fun r w' => r = .returned (.bool (eqT (.mk k m s e l) (.mk k' m' s' e' l'))) ∧ Grows w w' := by
  have HLA : Hid (∀ w', Grows w w' → LAt B w' N lv l ∧ LAt B w' N lv' l' ∧ B ≤ w'.heap.size) := fun w' h =>
    have hb : Below B w w' := h.below.mono hB
    ⟨hl.below hb, hl'.below hb, by have := h.size; omega⟩
  have HS := Lib.hid hS
  clear hl hl' hS
  have HE := Lib.hid (eqT_mk (.mk k m s e l) (.mk k' m' s' e' l'))
  obtain ⟨R, hR⟩ : ∃ R, eqT (.mk k m s e l) (.mk k' m' s' e' l') = R := ⟨_, rfl⟩
  rw [hR] at HE ⊢
  clear hR
  by_cases hh : k = k' ∧ m = m' ∧ s = s' ∧ e = e'
  · obtain ⟨rfl, rfl, rfl, rfl⟩ := hh
    have HE2 : Hid (eqTs l l' = R) := by show eqTs l l' = R; rw [HE.out]; simp [VT.kind, VT.num, VT.text, VT.elem, VT.list]
    clear HE
    go_enter Tryz.func51, Tryz.ntmps51
    go_wp2_with (go_at_call 97; refine (HS.out B lv lv' l l' _ (HLA.out _ (((Grows.refl _).alloc _).alloc _)).1 (HLA.out _ (((Grows.refl _).alloc _).alloc _)).2.1 (HLA.out _ (((Grows.refl _).alloc _).alloc _)).2.2).mono ?_; rintro r w2 ⟨hr, hg2⟩; rw [HE2.out] at hr; subst hr)
    go_ret
    exact ⟨rfl, (((Grows.refl _).alloc _).alloc _).trans hg2⟩
  · have HN := Lib.hid hh
    have HE2 : Hid (R = false) := by
      show R = false
      rw [HE.out]
      by_cases h1 : k = k' <;> by_cases h2 : m = m' <;> by_cases h4 : e = e' <;> simp_all [VT.kind, VT.num, VT.text, VT.elem, VT.list]
      exact fun h => absurd (toList_inj h) hh
    clear hh HE
    go_enter Tryz.func51, Tryz.ntmps51
    go_wp2_with (go_at_call 97; exfalso; exact HN.out ⟨by assumption, by assumption, toList_inj (by assumption), by assumption⟩)
    all_goals
      go_ret
      exact ⟨ret_bool HE2.out.symm, ((Grows.refl _).alloc _).alloc _⟩

set_option maxRecDepth 100000 in
set_option maxHeartbeats 2000000 in
theorem eqfs : ∀ N, EqS N := by
  intro N
  induction N with
  | zero => intro B lv lv' l l' w h; exact h.elim
  | succ N ih =>
    intro B lv lv' l l' w hl hl' hB
    have HS := Lib.hid ih
    have HL := Lib.hid hl
    have HL' := Lib.hid hl'
    obtain ⟨p, c, rfl⟩ := hl.slice
    obtain ⟨p', c', rfl⟩ := hl'.slice
    have hlen : l.length ≤ 9223372036854775807 := hl.len
    have hlen' : l'.length ≤ 9223372036854775807 := hl'.len
    clear hl hl' ih
    by_cases hll : l.length = l'.length
    · obtain ⟨n, hn⟩ : ∃ n, l.length = n := ⟨_, rfl⟩
      have hn' : l'.length = n := by omega
      have Hn := Lib.hid hn
      have Hn' := Lib.hid hn'
      rw [hn] at hlen HL ⊢
      rw [hn'] at HL' ⊢
      clear hn hn' hll hlen'
      go_enter Tryz.func97, Tryz.ntmps97
      go_wp2
      go_loopw [17] (fun i wr => ∃ (j : Nat), i = .int .i64 j ∧ j ≤ n ∧ Hid (eqTs (l.drop j) (l'.drop j) = eqTs l l') ∧ Grows w wr) (fun i _ => n - (intOf i).toNat)
      case atStart => exact ⟨0, rfl, Nat.zero_le _, rfl, Grows.refl _⟩
      case round =>
        obtain ⟨j, rfl, hj, HQ, hg⟩ := hrel
        have HG := Lib.hid hg
        clear hg
        by_cases hlt : j < n
        · rcases HL.out with ⟨h0, _⟩ | ⟨b, off, c0, hp, hbB, _, hel⟩
          · rw [← Hn.out, h0] at hlt; exact absurd hlt (by simp)
          rcases HL'.out with ⟨h0, _⟩ | ⟨b', off', c0', hp', hbB', _, hel'⟩
          · rw [← Hn'.out, h0] at hlt; exact absurd hlt (by simp)
          rw [Hn.out] at hp
          rw [Hn'.out] at hp'
          cases hp
          cases hp'
          obtain ⟨t, ht⟩ : ∃ t, l[j]? = some t := ⟨_, List.getElem?_eq_getElem (by rw [Hn.out]; exact hlt)⟩
          obtain ⟨t', ht'⟩ : ∃ t, l'[j]? = some t := ⟨_, List.getElem?_eq_getElem (by rw [Hn'.out]; exact hlt)⟩
          obtain ⟨hf, lv, hat, hl⟩ := hel j t ht
          obtain ⟨hf', lv', hat', hl'⟩ := hel' j t' ht'
          obtain ⟨pe, ce, rfl⟩ := hl.slice
          obtain ⟨pe', ce', rfl⟩ := hl'.slice
          have hbw : Below B w wr := HG.out.below.mono hB
          have hzw := HG.out.size
          obtain ⟨e0, e1, e2, e3, e4⟩ := hat.below hbw hbB
          obtain ⟨f0, f1, f2, f3, f4⟩ := hat'.below hbw hbB'
          have hst := Lib.hid (eqTs_step ht ht')
          have hi0 : (0 : Int) ≤ (j : Int) := by omega
          have hi1 : (j : Int) < (n : Int) := by omega
          have hb0 : b < wr.heap.size := by omega
          have hb0' : b' < wr.heap.size := by omega
          obtain ⟨X, hX⟩ : ∃ X, eqT t t' = X := ⟨_, rfl⟩
          rw [hX] at hst
          have HC : Hid (∀ w', Grows wr w' → Calls Tryz.prog 51 #[.agg #[.int .i64 t.kind, .int .u64 t.num, .string t.text, .slice pe t.list.length ce, .int .i64 t.elem], .agg #[.int .i64 t'.kind, .int .u64 t'.num, .string t'.text, .slice pe' t'.list.length ce', .int .i64 t'.elem]] w' fun r w'' => r = .returned (.bool X) ∧ Grows w' w'') := fun w' h => by
            have hb : Below B w w' := hbw.trans (h.below.mono (by omega))
            have := peq_of HS.out B t.kind t.num t.text t.elem t.list (.slice pe t.list.length ce) t'.kind t'.num t'.text t'.elem t'.list (.slice pe' t'.list.length ce') w' (hl.below hb) (hl'.below hb) (by have := h.size; omega)
            rwa [VT.eta, VT.eta, hX] at this
          clear hel hel' hat hat' hl hl' ht ht' hX
          cases X with
          | true =>
            have hst2 : Hid (eqTs (l.drop (j + 1)) (l'.drop (j + 1)) = eqTs l l') := by
              show eqTs _ _ = _; rw [← HQ.out, hst.out, Bool.true_and]
            clear hst
            go_wp2_with (go_at_call 51; refine (HC.out _ (((Grows.refl _).alloc _).alloc _)).mono ?_; rintro r w2 ⟨rfl, hg2⟩)
            go_roundw
            case rel => exact ⟨j + 1, by go_num, by omega, hst2.out, HG.out.trans ((((Grows.refl _).alloc _).alloc _).trans hg2)⟩
            case measure => simp [intOf]; omega
          | false =>
            have hst2 : Hid (false = eqTs l l') := by
              show false = _; rw [← HQ.out, hst.out, Bool.false_and]
            clear hst
            go_wp2_with (go_at_call 51; refine (HC.out _ (((Grows.refl _).alloc _).alloc _)).mono ?_; rintro r w2 ⟨rfl, hg2⟩)
            go_ret
            exact ⟨ret_bool hst2.out, HG.out.trans ((((Grows.refl _).alloc _).alloc _).trans hg2)⟩
        · obtain rfl : j = n := by omega
          go_wp2
          go_ret
          exact ⟨ret_bool (by rw [← HQ.out, ← Hn.out, eqTs_end (by rw [Hn.out, Hn'.out])]), HG.out⟩
    · have HE := Lib.hid (eqTs_len hll)
      have hb : ((l.length : Int) != (l'.length : Int)) = true := by simp; omega
      have Hll := Lib.hid hll
      clear hll
      go_enter Tryz.func97, Tryz.ntmps97
      go_wp2
      go_ret
      exact ⟨ret_bool HE.out.symm, Grows.refl _⟩
theorem pequal_any {N B : Nat} {t t' : VT} {v v' : Value} {w : World} (h : VAt B w N v t) (h' : VAt B w N v' t') (hB : B ≤ w.heap.size) :
    Calls Tryz.prog 51 #[v, v'] w fun r w' => r = .returned (.bool (eqT t t')) ∧ Grows w w' := by
  obtain ⟨_, lv, rfl, hl⟩ := h
  obtain ⟨_, lv', rfl, hl'⟩ := h'
  have := peq_of (eqfs N) B t.kind t.num t.text t.elem t.list lv t'.kind t'.num t'.text t'.elem t'.list lv' w hl hl' hB
  rwa [VT.eta, VT.eta] at this
end Go.Proofs.YtckggmcjcdkfhaaGreatDoor.Va
