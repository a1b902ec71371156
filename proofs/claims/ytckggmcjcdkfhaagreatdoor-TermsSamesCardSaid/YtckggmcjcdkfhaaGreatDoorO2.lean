/-
  value.Order and slices.CompareFunc: how two values stand to one another. No condition but that the values lie so.
-/
import Derived.Test.YtckggmcjcdkfhaaGreatDoorO1
namespace Go.Proofs.YtckggmcjcdkfhaaGreatDoor.Va
open Go Go.RowKit Go.Proofs.Nu
attribute [local go_sem ↓] Go.wp_at_zero Go.wp_at_succ

theorem new_row {W : World} {B : Nat} (h : W.heap.size = B) {cs : Array Value} {T : TypeId} (j : Nat) (u : Value) (hu : cs[j]? = some u) : ((W.alloc (.cells cs T)).drew).cell? ⟨B, j, none⟩ = some u := by
  have h1 : (W.alloc (.cells cs T)).cell? ⟨W.heap.size, j, none⟩ = some u := by rw [World.cell?_alloc_new]; exact hu
  rw [h] at h1
  exact ((Below.refl (B + 1) (W.alloc (.cells cs T))).drew.cell (p := ⟨B, j, none⟩) (by simp)).trans h1
theorem new_cell (W : World) (cs : Array Value) (T : TypeId) (j : Nat) (u : Value) (hu : cs[j]? = some u) : (W.alloc (.cells cs T)).cell? ⟨W.heap.size, j, none⟩ = some u := by
  rw [World.cell?_alloc_new]; exact hu
abbrev ordFn : Value := .func (.func 214) #[] #[]
/-- CompareFunc at lists of so many levels. -/
def CmpS (N : Nat) : Prop := ∀ (B : Nat) (lv lv' : Value) (l l' : List VT) (w : World), LAt B w N lv l → LAt B w N lv' l' → B ≤ w.heap.size →
    Calls Tryz.prog 234 #[lv, lv', ordFn] w fun e w' => e = .returned (.int .i64 (ordTs l l')) ∧ Grows w w'

set_option maxRecDepth 100000 in
set_option maxHeartbeats 2000000 in
theorem order_of {N : Nat} (hS : CmpS N) (B : Nat) (k m : Int) (s : ByteArray) (e : Int) (l : List VT) (lv : Value) (k' m' : Int) (s' : ByteArray) (e' : Int) (l' : List VT) (lv' : Value) (w : World) (hl : LAt B w N lv l) (hl' : LAt B w N lv' l') (hB : B ≤ w.heap.size) :
    Calls Tryz.prog 214 #[.agg #[.int .i64 k, .int .u64 m, .string s, lv, .int .i64 e], .agg #[.int .i64 k', .int .u64 m', .string s', lv', .int .i64 e']] w fun r w' => r = .returned (.int .i64 (ordT (.mk k m s e l) (.mk k' m' s' e' l'))) ∧ Grows w w' := by
  have HS := Lib.hid hS
  have HL := Lib.hid hl
  have HL' := Lib.hid hl'
  clear hS hl hl'
  obtain ⟨X0, hX0⟩ : ∃ X, Lib.compareInt k k' = X := ⟨_, rfl⟩
  obtain ⟨X1, hX1⟩ : ∃ X, Lib.compareInt m m' = X := ⟨_, rfl⟩
  obtain ⟨X2, hX2⟩ : ∃ X, Lib.compareBytes s.data.toList s'.data.toList = X := ⟨_, rfl⟩
  obtain ⟨X3, hX3⟩ : ∃ X, ordTs l l' = X := ⟨_, rfl⟩
  obtain ⟨X4, hX4⟩ : ∃ X, Lib.compareInt e e' = X := ⟨_, rfl⟩
  have hR : ordT (.mk k m s e l) (.mk k' m' s' e' l') = seq (seq X0 (seq X1 X2)) (seq X3 X4) := by
    rw [ordT, hX0, hX1, hX2, hX3, hX4]
  rw [hR]
  obtain ⟨R, hRR⟩ : ∃ R, seq (seq X0 (seq X1 X2)) (seq X3 X4) = R := ⟨_, rfl⟩
  rw [hRR]
  have HR := Lib.hid hRR
  clear hRR
  have c0 := fun w => cmp_int k k' w
  have c1 := fun w => cmp_u64 m m' w
  have c2 := fun w => cmp_str s s' w
  have c4 := fun w => cmp_int e e' w
  rw [hX0] at c0
  rw [hX1] at c1
  rw [hX2] at c2
  rw [hX4] at c4
  have C0 := Lib.hid c0
  have C1 := Lib.hid c1
  have C2 := Lib.hid c2
  have C4 := Lib.hid c4
  have H3 := Lib.hid hX3
  clear c0 c1 c2 c4 hX0 hX1 hX2 hX3 hX4 hR
  go_enter Tryz.func214, Tryz.ntmps214
  go_wp2
  obtain ⟨W1, hW1⟩ : ∃ W1, (w.alloc (.cells #[.int .i64 k, .int .u64 m, .string s, lv, .int .i64 e] 25)).alloc (.cells #[.int .i64 k', .int .u64 m', .string s', lv', .int .i64 e'] 25) = W1 := ⟨_, rfl⟩
  have hz1 : W1.heap.size = w.heap.size + 2 := by rw [← hW1]; simp
  have hg1 : Grows w W1 := by rw [← hW1]; exact ((Grows.refl _).alloc _).alloc _
  have hc : ∀ j u, ([.int .i64 k, .int .u64 m, .string s, lv, .int .i64 e] : List Value)[j]? = some u → W1.cell? ⟨w.heap.size, j, none⟩ = some u := by
    intro j u hu
    have h1 : ((w.alloc (.cells #[.int .i64 k, .int .u64 m, .string s, lv, .int .i64 e] 25))).cell? ⟨w.heap.size, j, none⟩ = some u := by
      rw [World.cell?_alloc_new]; simpa using hu
    rw [← hW1]
    exact (((Below.refl _ _).alloc (Nat.le_refl _) _).cell (p := ⟨w.heap.size, j, none⟩) (by simp)).trans h1
  have hc' : ∀ j u, ([.int .i64 k', .int .u64 m', .string s', lv', .int .i64 e'] : List Value)[j]? = some u → W1.cell? ⟨w.heap.size + 1, j, none⟩ = some u := by
    intro j u hu
    have h1 := World.cell?_alloc_new (w.alloc (.cells #[.int .i64 k, .int .u64 m, .string s, lv, .int .i64 e] 25)) #[.int .i64 k', .int .u64 m', .string s', lv', .int .i64 e'] 25 j
    rw [show (w.alloc (.cells #[.int .i64 k, .int .u64 m, .string s, lv, .int .i64 e] 25)).heap.size = w.heap.size + 1 by simp] at h1
    rw [← hW1, h1]; simpa using hu
  rw [hW1]
  clear hW1
  have HALL : Hid (∀ w', Below W1.heap.size W1 w' → (Below W1.heap.size W1 w' ∧ w'.cell? ⟨w.heap.size, 0, none⟩ = some (.int .i64 k) ∧ w'.cell? ⟨w.heap.size, 1, none⟩ = some (.int .u64 m) ∧ w'.cell? ⟨w.heap.size, 2, none⟩ = some (.string s) ∧ w'.cell? ⟨w.heap.size + 1, 0, none⟩ = some (.int .i64 k') ∧ w'.cell? ⟨w.heap.size + 1, 1, none⟩ = some (.int .u64 m') ∧ w'.cell? ⟨w.heap.size + 1, 2, none⟩ = some (.string s'))) := fun w' h =>
    have q : ∀ b o, b < W1.heap.size → w'.cell? ⟨b, o, none⟩ = W1.cell? ⟨b, o, none⟩ := fun b o hb => h.cell (p := ⟨b, o, none⟩) hb
    ⟨h, (q _ _ (by omega)).trans (hc 0 _ rfl), (q _ _ (by omega)).trans (hc 1 _ rfl), (q _ _ (by omega)).trans (hc 2 _ rfl), (q _ _ (by omega)).trans (hc' 0 _ rfl), (q _ _ (by omega)).trans (hc' 1 _ rfl), (q _ _ (by omega)).trans (hc' 2 _ rfl)⟩
  have HALL2 : Hid (∀ w', Below W1.heap.size W1 w' → (Below W1.heap.size W1 w' ∧ w'.cell? ⟨w.heap.size, 3, none⟩ = some lv ∧ w'.cell? ⟨w.heap.size, 4, none⟩ = some (.int .i64 e) ∧ w'.cell? ⟨w.heap.size + 1, 3, none⟩ = some lv' ∧ w'.cell? ⟨w.heap.size + 1, 4, none⟩ = some (.int .i64 e'))) := fun w' h =>
    have q : ∀ b o, b < W1.heap.size → w'.cell? ⟨b, o, none⟩ = W1.cell? ⟨b, o, none⟩ := fun b o hb => h.cell (p := ⟨b, o, none⟩) hb
    ⟨h, (q _ _ (by omega)).trans (hc 3 _ rfl), (q _ _ (by omega)).trans (hc 4 _ rfl), (q _ _ (by omega)).trans (hc' 3 _ rfl), (q _ _ (by omega)).trans (hc' 4 _ rfl)⟩
  clear hc hc'
  obtain ⟨_, a0, a1, a2, b0, b1, b2⟩ := HALL.out W1 (Below.refl _ _)
  go_region_held3 (fun w' => Below W1.heap.size W1 w' ∧ w'.cell? ⟨w.heap.size, 0, none⟩ = some (.int .i64 k) ∧ w'.cell? ⟨w.heap.size, 1, none⟩ = some (.int .u64 m) ∧ w'.cell? ⟨w.heap.size, 2, none⟩ = some (.string s) ∧ w'.cell? ⟨w.heap.size + 1, 0, none⟩ = some (.int .i64 k') ∧ w'.cell? ⟨w.heap.size + 1, 1, none⟩ = some (.int .u64 m') ∧ w'.cell? ⟨w.heap.size + 1, 2, none⟩ = some (.string s'))
    (first
      | exact HALL.out _ (Below.refl _ _)
      | exact HALL.out _ (Below.refl _ _).drew
      | exact HALL.out _ ((Below.refl _ _).drew.alloc (by simp) _)
      | assumption)
    ((first
      | (go_at_call 231; refine (C0.out _).mono ?_; rintro r w2 ⟨rfl, rfl⟩)
      | (go_at_call 232; refine (C1.out _).mono ?_; rintro r w2 ⟨rfl, rfl⟩)
      | (go_at_call 233; refine (C2.out _).mono ?_; rintro r w2 ⟨rfl, rfl⟩)
      | (go_at_call 230; refine (or3 _ _ _ _ _ _ (new_row hz1 0 _ rfl) (new_row hz1 1 _ rfl) (new_row hz1 2 _ rfl)).mono ?_; rintro r w2 ⟨rfl, rfl⟩)))
  obtain ⟨W2, hW2⟩ : ∃ W2, (W1.alloc (.cells #[.int .i64 X0, .int .i64 X1, .int .i64 X2] 3)).drew = W2 := ⟨_, rfl⟩
  have hg2 : Grows W1 W2 := by rw [← hW2]; exact ((Grows.refl _).alloc _).drew
  have hz2 : W2.heap.size = w.heap.size + 3 := by rw [← hW2]; simp; omega
  obtain ⟨Y, hY⟩ : ∃ Y, seq X0 (seq X1 X2) = Y := ⟨_, rfl⟩
  have HRY : Hid (seq Y (seq X3 X4) = R) := by rw [← hY]; exact HR.out
  rw [hW2, hY]
  clear HR hW2 hY a0 a1 a2 b0 b1 b2 C0 C1 C2
  by_cases hn : Y = 0
  · subst hn
    have hs : Hid (seq X3 X4 = R) := by rw [← HRY.out]; show seq X3 X4 = seq 0 (seq X3 X4); unfold seq; simp
    clear HRY
    have HALL3 : Hid (∀ w', Below W2.heap.size W2 w' → (Below W2.heap.size W2 w' ∧ w'.cell? ⟨w.heap.size, 3, none⟩ = some lv ∧ w'.cell? ⟨w.heap.size, 4, none⟩ = some (.int .i64 e) ∧ w'.cell? ⟨w.heap.size + 1, 3, none⟩ = some lv' ∧ w'.cell? ⟨w.heap.size + 1, 4, none⟩ = some (.int .i64 e'))) := fun w' h =>
      ⟨h, (HALL2.out w' (hg2.below.trans (h.mono hg2.size))).2⟩
    have HLA : Hid (∀ w', Below W2.heap.size W2 w' → LAt B w' N lv l ∧ LAt B w' N lv' l' ∧ B ≤ w'.heap.size) := fun w' h =>
      have hb : Below B w w' := ((hg1.trans hg2).below.trans (h.mono (hg1.trans hg2).size)).mono hB
      ⟨HL.out.below hb, HL'.out.below hb, by have := h.size; omega⟩
    clear HALL HALL2 HL HL'
    obtain ⟨_, a3, a4, b3, b4⟩ := HALL3.out W2 (Below.refl _ _)
    go_wp2
    go_region_held3 (fun w' => Below W2.heap.size W2 w' ∧ w'.cell? ⟨w.heap.size, 3, none⟩ = some lv ∧ w'.cell? ⟨w.heap.size, 4, none⟩ = some (.int .i64 e) ∧ w'.cell? ⟨w.heap.size + 1, 3, none⟩ = some lv' ∧ w'.cell? ⟨w.heap.size + 1, 4, none⟩ = some (.int .i64 e'))
      (first
        | exact HALL3.out _ (Below.refl _ _)
        | exact HALL3.out _ (Below.refl _ _).drew
        | exact HALL3.out _ ((Below.refl _ _).drew.trans hg3.below)
        | exact HALL3.out _ (((Below.refl _ _).drew.trans hg3.below).alloc hsz3 _)
        | assumption)
      ((first
        | (go_at_call 231; refine (C4.out _).mono ?_; rintro r w2 ⟨rfl, rfl⟩)
        | (go_at_call 234; refine (HS.out B lv lv' l l' W2.drew (HLA.out _ (Below.refl _ _).drew).1 (HLA.out _ (Below.refl _ _).drew).2.1 (HLA.out _ (Below.refl _ _).drew).2.2).mono ?_; rintro r w3 ⟨hr, hg3⟩; rw [H3.out] at hr; subst hr; have hsz3 : W2.heap.size ≤ w3.heap.size := hg3.size)
        | (go_at_call 230; refine (or2 _ _ _ _ _ (new_cell _ _ _ 0 _ rfl) (new_cell _ _ _ 1 _ rfl)).mono ?_; rintro r w4 ⟨rfl, rfl⟩)))
    all_goals
      go_wp2
      go_ret
      exact ⟨ret_i hs.out, (hg1.trans hg2).trans ((((Grows.refl W2).drew).trans hg3).alloc _)⟩
  · have hb : (Y != 0) = true := by simpa using hn
    have hs : Hid (Y = R) := by rw [← HRY.out]; show Y = seq Y (seq X3 X4); unfold seq; simp [hn]
    clear hn HRY HALL HALL2
    go_wp2
    go_ret
    exact ⟨ret_i hs.out, hg1.trans hg2⟩

set_option maxRecDepth 100000 in
set_option maxHeartbeats 2000000 in
theorem cmps : ∀ N, CmpS N := by
  intro N
  induction N with
  | zero => intro B lv lv' l l' w h; exact h.elim
  | succ N ih =>
    intro B lv lv' l l' w hl hl' hB
    have HS := Lib.hid ih
    have HL := Lib.hid hl
    have HL' := Lib.hid hl'
    obtain ⟨p, c, rfl⟩ := hl.slice
    obtain ⟨p', c', rfl⟩ := hl'.slice
    have hlen : l.length ≤ 9223372036854775807 := hl.len
    have hlen' : l'.length ≤ 9223372036854775807 := hl'.len
    clear hl hl' ih
    obtain ⟨n, hn⟩ : ∃ n, l.length = n := ⟨_, rfl⟩
    obtain ⟨n', hn'⟩ : ∃ n, l'.length = n := ⟨_, rfl⟩
    have Hn := Lib.hid hn
    have Hn' := Lib.hid hn'
    rw [hn] at hlen HL ⊢
    rw [hn'] at hlen' HL' ⊢
    clear hn hn'
    go_enter Tryz.func234, Tryz.ntmps234
    go_wp2
    go_loopw [13] (fun i wr => ∃ (j : Nat), i = .int .i64 j ∧ j ≤ n ∧ j ≤ n' ∧ Hid (ordTs (l.drop j) (l'.drop j) = ordTs l l') ∧ Grows w wr) (fun i _ => n - (intOf i).toNat)
    case atStart => exact ⟨0, rfl, Nat.zero_le _, Nat.zero_le _, rfl, Grows.refl _⟩
    case round =>
      obtain ⟨j, rfl, hj, hj', HQ, hg⟩ := hrel
      have HG := Lib.hid hg
      clear hg
      by_cases hlt : j < n
      · rcases HL.out with ⟨h0, _⟩ | ⟨b, off, c0, hp, hbB, _, hel⟩
        · rw [← Hn.out, h0] at hlt; exact absurd hlt (by simp)
        obtain ⟨t, ht⟩ : ∃ t, l[j]? = some t := ⟨_, List.getElem?_eq_getElem (by rw [Hn.out]; exact hlt)⟩
        obtain ⟨hf, lv, hat, hl⟩ := hel j t ht
        obtain ⟨pe, ce, rfl⟩ := hl.slice
        have hbw : Below B w wr := HG.out.below.mono hB
        have hzw := HG.out.size
        obtain ⟨e0, e1, e2, e3, e4⟩ := hat.below hbw hbB
        rw [Hn.out] at hp
        cases hp
        by_cases hlt' : j < n'
        · rcases HL'.out with ⟨h0, _⟩ | ⟨b', off', c0', hp', hbB', _, hel'⟩
          · rw [← Hn'.out, h0] at hlt'; exact absurd hlt' (by simp)
          rw [Hn'.out] at hp'
          cases hp'
          obtain ⟨t', ht'⟩ : ∃ t, l'[j]? = some t := ⟨_, List.getElem?_eq_getElem (by rw [Hn'.out]; exact hlt')⟩
          obtain ⟨hf', lv', hat', hl'⟩ := hel' j t' ht'
          obtain ⟨pe', ce', rfl⟩ := hl'.slice
          obtain ⟨f0, f1, f2, f3, f4⟩ := hat'.below hbw hbB'
          have HLA : Hid (∀ w', Below wr.heap.size wr w' → LAt B w' N (.slice pe t.list.length ce) t.list ∧ LAt B w' N (.slice pe' t'.list.length ce') t'.list ∧ B ≤ w'.heap.size) := fun w' h =>
            have hb : Below B w w' := hbw.trans (h.mono (by omega))
            ⟨hl.below hb, hl'.below hb, by have := h.size; omega⟩
          have hst := Lib.hid (ordTs_step ht ht')
          have hi0 : (0 : Int) ≤ (j : Int) := by omega
          have hi1 : (j : Int) < (n : Int) := by omega
          have hi2 : (j : Int) < (n' : Int) := by omega
          have hb0 : b < wr.heap.size := by omega
          have hb0' : b' < wr.heap.size := by omega
          obtain ⟨X, hX⟩ : ∃ X, ordT t t' = X := ⟨_, rfl⟩
          rw [hX] at hst
          have HX := Lib.hid hX
          clear hel hel' hat hat' hl hl' ht ht' hX
          have HC : Hid (∀ w', Grows wr w' → Calls Tryz.prog 214 #[.agg #[.int .i64 t.kind, .int .u64 t.num, .string t.text, .slice pe t.list.length ce, .int .i64 t.elem], .agg #[.int .i64 t'.kind, .int .u64 t'.num, .string t'.text, .slice pe' t'.list.length ce', .int .i64 t'.elem]] w' fun r w'' => r = .returned (.int .i64 X) ∧ Grows w' w'') := fun w' h => by
            have hh := HLA.out w' h.below
            have := order_of HS.out B t.kind t.num t.text t.elem t.list (.slice pe t.list.length ce) t'.kind t'.num t'.text t'.elem t'.list (.slice pe' t'.list.length ce') w' hh.1 hh.2.1 hh.2.2
            rwa [VT.eta, VT.eta, HX.out] at this
          clear HLA
          by_cases hn : X = 0
          · subst hn
            have hst2 : Hid (ordTs (l.drop (j + 1)) (l'.drop (j + 1)) = ordTs l l') := by
              show ordTs _ _ = _; rw [← HQ.out, hst.out, seq_0]
            clear hst
            go_wp2_with (go_at_call 214; refine (HC.out _ (((Grows.refl _).alloc _).alloc _)).mono ?_; rintro r w2 ⟨rfl, hg2⟩)
            go_roundw
            case rel => exact ⟨j + 1, by go_num, by omega, by omega, hst2.out, HG.out.trans ((((Grows.refl _).alloc _).alloc _).trans hg2)⟩
            case measure => simp [intOf]; omega
          · have hb : (X != 0) = true := by simpa using hn
            have hst2 : Hid (X = ordTs l l') := by
              show X = _; rw [← HQ.out, hst.out, seq_ne hn]
            clear hst hn
            go_wp2_with (go_at_call 214; refine (HC.out _ (((Grows.refl _).alloc _).alloc _)).mono ?_; rintro r w2 ⟨rfl, hg2⟩)
            go_ret
            exact ⟨ret_i hst2.out, HG.out.trans ((((Grows.refl _).alloc _).alloc _).trans hg2)⟩
        · have HE : Hid (1 = ordTs l l') := by
            show 1 = _; rw [← HQ.out, ordTs_over (by rw [Hn.out]; exact hlt) (by rw [Hn'.out]; omega)]
          have hi0 : (0 : Int) ≤ (j : Int) := by omega
          have hi1 : (j : Int) < (n : Int) := by omega
          clear hel hat hl ht
          go_wp2
          go_ret
          exact ⟨ret_i HE.out, HG.out.trans ((Grows.refl _).alloc _)⟩
      · obtain rfl : j = n := by omega
        have HE : Hid ((if j < n' then -1 else 0) = ordTs l l') := by
          show _ = _; rw [← HQ.out, ordTs_end (by rw [Hn.out]; exact Nat.le_refl _), Hn'.out]
        by_cases hlt' : j < n'
        · have HE2 : Hid (-1 = ordTs l l') := by show -1 = _; rw [← HE.out, if_pos hlt']
          go_wp2
          go_ret
          exact ⟨ret_i HE2.out, HG.out⟩
        · have HE2 : Hid (0 = ordTs l l') := by show 0 = _; rw [← HE.out, if_neg hlt']
          go_wp2
          go_ret
          exact ⟨ret_i HE2.out, HG.out⟩
/-- Order, at whatever levels. -/
theorem order_any {N B : Nat} {t t' : VT} {v v' : Value} {w : World} (h : VAt B w N v t) (h' : VAt B w N v' t') (hB : B ≤ w.heap.size) :
    Calls Tryz.prog 214 #[v, v'] w fun r w' => r = .returned (.int .i64 (ordT t t')) ∧ Grows w w' := by
  obtain ⟨_, lv, rfl, hl⟩ := h
  obtain ⟨_, lv', rfl, hl'⟩ := h'
  have := order_of (cmps N) B t.kind t.num t.text t.elem t.list lv t'.kind t'.num t'.text t'.elem t'.list lv' w hl hl' hB
  rwa [VT.eta, VT.eta] at this
end Go.Proofs.YtckggmcjcdkfhaaGreatDoor.Va
