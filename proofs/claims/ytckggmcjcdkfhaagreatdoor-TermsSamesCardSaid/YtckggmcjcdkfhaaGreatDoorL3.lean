/-
  AsLent, AsLentAll: what was lent reads as it did; then it is written over. Conditions: the original lies so, below what was lent.
-/
import Derived.Test.YtckggmcjcdkfhaaGreatDoorL2
import Derived.Test.YtckggmcjcdkfhaaGreatDoorNuLnt
import Derived.Deep.RegionHeld3
import Derived.Deep.DrawnRows
namespace Go.Proofs.YtckggmcjcdkfhaaGreatDoor.Va
open Go Go.RowKit Go.Proofs.Nu
attribute [local go_sem ↓] Go.wp_at_zero Go.wp_at_succ

def KeptS (N : Nat) : Prop := ∀ (B lo hi : Nat) (v lv : Value) (l : List VT) (w : World), LentAt w N lo hi v l → LAt B w N lv l → B ≤ lo → hi ≤ w.heap.size →
    Calls Tryz.prog 90 #[v, lv] w fun r w' => r = .returned (.bool true) ∧ Apart lo hi w w'
set_option maxRecDepth 100000 in
theorem kept_of {N : Nat} (hS : KeptS N) (B lo hi : Nat) (k m : Int) (s : ByteArray) (e : Int) (l : List VT) (v lv : Value) (w : World) (hl : LentAt w N lo hi v l) (ho : LAt B w N lv l) (hB : B ≤ lo) (hhi : hi ≤ w.heap.size) :
    Calls Tryz.prog 39 #[.agg #[.int .i64 k, .int .u64 m, .string s, v, .int .i64 e], .agg #[.int .i64 k, .int .u64 m, .string s, lv, .int .i64 e]] w fun r w' => r = .returned (.bool true) ∧ Apart lo hi w w' := by
  have hle := hl.le
  have HC : Hid (∀ w', Below w.heap.size w w' → Calls Tryz.prog 90 #[v, lv] w' fun r w'' => r = .returned (.bool true) ∧ Apart lo hi w' w'') := fun w' h => hS B lo hi v lv l w' (hl.below hhi h) (ho.below (h.mono (by omega))) hB (Nat.le_trans hhi h.size)
  obtain ⟨b', hv'⟩ := hl.form
  obtain ⟨p', c', hlv'⟩ := ho.slice
  subst hv' hlv'
  clear hl ho
  go_enter Tryz.func39, Tryz.ntmps39
  go_wp2_with (fail)
  refine (HC.out _ (below_boxes2 w _ _)).mono ?_
  rintro r w2 ⟨rfl, ha⟩
  have HA := Lib.hid ((Apart.of_below (lo := lo) (hi := hi) (below_boxes2 w _ _) (Nat.le_refl _)).trans ha)
  clear ha
  go_wp2
  go_ret
  exact ⟨rfl, HA.out⟩

set_option maxRecDepth 100000 in
set_option maxHeartbeats 4000000 in
theorem kepts : ∀ N, KeptS N := by
  intro N
  induction N with
  | zero => intro B lo hi v lv l w h; exact h.elim
  | succ N ih =>
    intro B lo hi v lv l w hl ho hB hhi
    have HS := Lib.hid ih
    have HL := Lib.hid ho
    obtain ⟨p, c, rfl⟩ := ho.slice
    obtain ⟨b, rfl, hlo, hbh, hlen, hA⟩ := lentAt_open hl
    have HA0 := Lib.hid hA
    clear hl ho ih hA
    obtain ⟨n, hn⟩ : ∃ n, l.length = n := ⟨_, rfl⟩
    have Hn := Lib.hid hn
    rw [hn] at hlen ⊢
    clear hn
    have hw3 : IntKind.i64.wrap ((n : Int) + 3) = n + 3 := by rw [IntKind.wrap_i64]; omega
    go_enter Tryz.func90, Tryz.ntmps90
    go_wp2
    go_loopw [7, 8, 9] (fun g i x wr => ∃ (j : Nat), g = .bool true ∧ i = .int .i64 j ∧ j ≤ n + 3 ∧ Hid (ARel w wr N b lo hi j l)) (fun _ i _ _ => n + 3 - (intOf i).toNat)
    case atStart => exact ⟨0, rfl, rfl, Nat.zero_le _, HA0⟩
    case round =>
      obtain ⟨j, rfl, rfl, hj, HR⟩ := hrel
      by_cases hlt : j < n + 3
      · have hlt3 : (j : Int) < (n : Int) + 3 := by omega
        have q0 := HR.out.froz (j * 5)
        have q1 := HR.out.froz (j * 5 + 1)
        have q2 := HR.out.froz (j * 5 + 2)
        have q3 := HR.out.froz (j * 5 + 3)
        have q4 := HR.out.froz (j * 5 + 4)
        by_cases hjn : j < n
        · obtain ⟨t, ht⟩ : ∃ t, l[j]? = some t := ⟨_, List.getElem?_eq_getElem (by rw [Hn.out]; exact hjn)⟩
          obtain ⟨x, y, lv', hbx, hy, hf, ha, hlent, hstep⟩ := HR.out.head ht hlo hhi
          rcases HL.out with ⟨h0, _⟩ | ⟨b0, off, c', hp, hbB, _, hel⟩
          · rw [← Hn.out, h0] at hjn; exact absurd hjn (by simp)
          rw [Hn.out] at hp
          cases hp
          obtain ⟨_, lv0, hat0, hlv0⟩ := hel j t ht
          have hbw : Below B w wr := HR.out.apart.below hB (by omega)
          obtain ⟨g0, g1, g2, g3, g4⟩ := hat0.below hbw hbB
          obtain ⟨e0, e1, e2, e3, e4⟩ := ha
          have hle := hlent.le
          have hsz := HR.out.apart.size
          have hjn' : (j : Int) < (n : Int) := by omega
          have hne : b0 ≠ b := by omega
          have hne' : b ≠ b0 := by omega
          have HC : Hid (∀ w', Below wr.heap.size wr w' → Calls Tryz.prog 39 #[.agg #[.int .i64 t.kind, .int .u64 t.num, .string t.text, lv', .int .i64 t.elem], .agg #[.int .i64 t.kind, .int .u64 t.num, .string t.text, lv0, .int .i64 t.elem]] w' fun r w'' => r = .returned (.bool true) ∧ Apart x y w' w'') := fun w' hb' =>
            kept_of HS.out B x y t.kind t.num t.text t.elem t.list lv' lv0 w' (hlent.below (by omega) hb') ((hlv0.below hbw).below (hb'.mono (by omega))) (by omega) (by have := hb'.size; omega)
          have HST := Lib.hid hstep
          clear hel hat0 hlv0 hbw ht hstep hlent hle
          have HALL : Hid (∀ w', Apart x y wr w' → (Apart x y wr w' ∧ w'.cell? ⟨b, j * 5, none⟩ = some (.int .i64 t.kind) ∧ w'.cell? ⟨b, j * 5 + 1, none⟩ = some (.int .u64 t.num) ∧ w'.cell? ⟨b, j * 5 + 2, none⟩ = some (.string t.text) ∧ w'.cell? ⟨b, j * 5 + 3, none⟩ = some lv' ∧ w'.cell? ⟨b, j * 5 + 4, none⟩ = some (.int .i64 t.elem) ∧
              w'.cell? ⟨b0, off + j * 5, none⟩ = some (.int .i64 t.kind) ∧ w'.cell? ⟨b0, off + j * 5 + 1, none⟩ = some (.int .u64 t.num) ∧ w'.cell? ⟨b0, off + j * 5 + 2, none⟩ = some (.string t.text) ∧ w'.cell? ⟨b0, off + j * 5 + 3, none⟩ = some lv0 ∧ w'.cell? ⟨b0, off + j * 5 + 4, none⟩ = some (.int .i64 t.elem))) := fun w' h =>
            have k : ∀ o, w'.cell? ⟨b, o, none⟩ = wr.cell? ⟨b, o, none⟩ := fun o => h.cell (p := ⟨b, o, none⟩) (by show b < wr.heap.size; omega) (.inl hbx)
            have k0 : ∀ o, w'.cell? ⟨b0, o, none⟩ = wr.cell? ⟨b0, o, none⟩ := fun o => h.cell (p := ⟨b0, o, none⟩) (by show b0 < wr.heap.size; omega) (.inl (by show b0 < x; omega))
            ⟨h, (k _).trans e0, (k _).trans e1, (k _).trans e2, (k _).trans e3, (k _).trans e4, (k0 _).trans g0, (k0 _).trans g1, (k0 _).trans g2, (k0 _).trans g3, (k0 _).trans g4⟩
          obtain ⟨kk, hkk⟩ : ∃ kk, t.kind = kk := ⟨_, rfl⟩
          rw [hkk] at e0 g0 HC HALL
          clear hkk
          by_cases hk : kk = -7
          · subst hk
            go_wp2
            go_region_held3 (fun w' => Apart x y wr w' ∧ w'.cell? ⟨b, j * 5, none⟩ = some (.int .i64 (-7)) ∧ w'.cell? ⟨b, j * 5 + 1, none⟩ = some (.int .u64 t.num) ∧ w'.cell? ⟨b, j * 5 + 2, none⟩ = some (.string t.text) ∧ w'.cell? ⟨b, j * 5 + 3, none⟩ = some lv' ∧ w'.cell? ⟨b, j * 5 + 4, none⟩ = some (.int .i64 t.elem) ∧
                w'.cell? ⟨b0, off + j * 5, none⟩ = some (.int .i64 (-7)) ∧ w'.cell? ⟨b0, off + j * 5 + 1, none⟩ = some (.int .u64 t.num) ∧ w'.cell? ⟨b0, off + j * 5 + 2, none⟩ = some (.string t.text) ∧ w'.cell? ⟨b0, off + j * 5 + 3, none⟩ = some lv0 ∧ w'.cell? ⟨b0, off + j * 5 + 4, none⟩ = some (.int .i64 t.elem))
              (first
                | with_reducible exact HALL.out _ ((Apart.refl _ _ _).drew.trans hb2.out)
                | with_reducible exact HALL.out _ (Apart.refl _ _ _).drew)
              ((go_at_call 39; refine (HC.out _ (Below.refl _ _).drew).mono ?_; rintro r w2 ⟨rfl, hb2'⟩; have hb2 := Lib.hid hb2'; clear hb2'))
            have hb3 := Lib.hid ((Apart.refl x y wr).drew.trans hb2.out)
            have fz : ∀ o, w2.frozen? ⟨b, o, none⟩ = false := fun o => (hb3.out.frozen (p := ⟨b, o, none⟩) (by show b < wr.heap.size; omega) (.inl hbx)).trans (HR.out.froz o)
            have y0 := fz (j * 5)
            have y1 := fz (j * 5 + 1)
            have y2 := fz (j * 5 + 2)
            have y3 := fz (j * 5 + 3)
            have y4 := fz (j * 5 + 4)
            obtain ⟨_, x0, x1, x2, x3, x4, _⟩ := HALL.out w2 hb3.out
            clear fz HALL HC e0 e1 e2 e3 e4 g0 g1 g2 g3 g4 q0 q1 q2 q3 q4
            go_wp2
            go_roundw
            case rel => exact ⟨j + 1, rfl, by go_num, by omega, HST.out w2 hb3.out _ _ _ _ _⟩
            case measure => simp [intOf]; omega
          · go_wp2
            go_region_held3 (fun w' => Apart x y wr w' ∧ w'.cell? ⟨b, j * 5, none⟩ = some (.int .i64 kk) ∧ w'.cell? ⟨b, j * 5 + 1, none⟩ = some (.int .u64 t.num) ∧ w'.cell? ⟨b, j * 5 + 2, none⟩ = some (.string t.text) ∧ w'.cell? ⟨b, j * 5 + 3, none⟩ = some lv' ∧ w'.cell? ⟨b, j * 5 + 4, none⟩ = some (.int .i64 t.elem) ∧
                w'.cell? ⟨b0, off + j * 5, none⟩ = some (.int .i64 kk) ∧ w'.cell? ⟨b0, off + j * 5 + 1, none⟩ = some (.int .u64 t.num) ∧ w'.cell? ⟨b0, off + j * 5 + 2, none⟩ = some (.string t.text) ∧ w'.cell? ⟨b0, off + j * 5 + 3, none⟩ = some lv0 ∧ w'.cell? ⟨b0, off + j * 5 + 4, none⟩ = some (.int .i64 t.elem))
              (first
                | with_reducible exact HALL.out _ ((Apart.refl _ _ _).drew.trans hb2.out)
                | with_reducible exact HALL.out _ (Apart.refl _ _ _).drew)
              ((go_at_call 39; refine (HC.out _ (Below.refl _ _).drew).mono ?_; rintro r w2 ⟨rfl, hb2'⟩; have hb2 := Lib.hid hb2'; clear hb2'))
            have hb3 := Lib.hid ((Apart.refl x y wr).drew.trans hb2.out)
            have fz : ∀ o, w2.frozen? ⟨b, o, none⟩ = false := fun o => (hb3.out.frozen (p := ⟨b, o, none⟩) (by show b < wr.heap.size; omega) (.inl hbx)).trans (HR.out.froz o)
            have y0 := fz (j * 5)
            have y1 := fz (j * 5 + 1)
            have y2 := fz (j * 5 + 2)
            have y3 := fz (j * 5 + 3)
            have y4 := fz (j * 5 + 4)
            obtain ⟨_, x0, x1, x2, x3, x4, _⟩ := HALL.out w2 hb3.out
            clear fz HALL HC e0 e1 e2 e3 e4 g0 g1 g2 g3 g4 q0 q1 q2 q3 q4
            go_wp2
            go_roundw
            case rel => exact ⟨j + 1, rfl, by go_num, by omega, HST.out w2 hb3.out _ _ _ _ _⟩
            case measure => simp [intOf]; omega
        · have hjn' : ¬ ((j : Int) < (n : Int)) := by omega
          have hmk := HR.out.marks j (by rw [Hn.out]; omega) (by rw [Hn.out]; exact hlt) (Nat.le_refl _)
          have e0 : wr.cell? ⟨b, j * 5, none⟩ = some (.int .i64 (-7)) := hmk.kind
          have e1 : wr.cell? ⟨b, j * 5 + 1, none⟩ = some (.int .u64 j) := hmk.num
          have e2 : wr.cell? ⟨b, j * 5 + 2, none⟩ = some (.string ⟨#[]⟩) := hmk.text
          have e3 : wr.cell? ⟨b, j * 5 + 3, none⟩ = some (.slice none 0 0) := hmk.list
          have e4 : wr.cell? ⟨b, j * 5 + 4, none⟩ = some (.int .i64 0) := hmk.elem
          clear hmk
          go_wp2
          go_roundw
          case rel => exact ⟨j + 1, rfl, by go_num, by omega, HR.out.mark (by rw [Hn.out]; omega) (by rw [Hn.out]; exact hlt) hlo hbh hhi _ _ _ _ _⟩
          case measure => simp [intOf]; omega
      · obtain rfl : j = n + 3 := by omega
        go_wp2
        go_ret
        exact ⟨rfl, HR.out.apart⟩
end Go.Proofs.YtckggmcjcdkfhaaGreatDoor.Va
