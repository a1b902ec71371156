/-
  weigh, Great: a value is weighed; nothing that lay turns. No condition but that the value lies so.
-/
import Derived.Test.YtfoiaiblggapeaaGreatDoorV1
import Derived.Test.YtfoiaiblggapeaaGreatDoorNuWeigh
import Derived.WalkSpells
import Derived.WalkLawsBesides
import Derived.Deep.Light
import Derived.Lib.Hide
namespace Go.Proofs.YtfoiaiblggapeaaGreatDoor.Va
open Go Go.RowKit Go.Proofs.Nu

theorem ret_int {k : IntKind} {a b : Int} (h : a = b) : Ending.returned (.int k a) = .returned (.int k b) := by rw [h]
theorem ret_bool {a b : Bool} (h : a = b) : Ending.returned (.bool a) = .returned (.bool b) := by rw [h]
theorem at5_alloc {B : Nat} {w : World} {b o : Nat} {t : VT} {lv : Value} (h : At5 w b o t lv) {w' : World} (hb : Below B w w') (hlt : b < B) : At5 w' b o t lv := h.below hb hlt
theorem below_boxed {w wr : World} {o : Obj} (h : Below (w.heap.size + 1) (w.alloc o) wr) : Below w.heap.size w wr := ((Below.refl _ _).alloc (Nat.le_refl _) _).trans (h.mono (by omega))

set_option maxRecDepth 100000 in
set_option maxHeartbeats 1000000 in
theorem weigh_raw : ∀ (N B : Nat) (k m : Int) (s : ByteArray) (e : Int) (l : List VT) (lv : Value) (n : Nat) (w : World), LAt B w N lv l → B ≤ w.heap.size → s.size ≤ 9223372036854775807 → n ≤ 100000 →
    Calls Tryz.prog 37 #[.agg #[.int .i64 k, .int .u64 m, .string s, lv, .int .i64 e], .int .i64 n] w fun r w' => r = .returned (.int .i64 (wts l (n + 1 + s.size / 64) : Nat)) ∧ Below w.heap.size w w' := by
  intro N
  induction N with
  | zero => intro B k m s e l lv n w h; exact h.elim
  | succ N ih =>
    intro B k m s e l lv n w hl hB hx hn
    have HL := Lib.hid hl
    obtain ⟨p, c, rfl⟩ := hl.slice
    have hlen := hl.len
    clear hl
    have hlen : l.length ≤ 9223372036854775807 := hlen
    go_enter Tryz.func37, Tryz.ntmps37
    go_wp2
    obtain ⟨W1, hW1⟩ : ∃ W1, w.alloc (.cells #[.int .i64 k, .int .u64 m, .string s, .slice p l.length c, .int .i64 e] 42) = W1 := ⟨_, rfl⟩
    have HW1 := Lib.hid hW1
    have hz1 : W1.heap.size = w.heap.size + 1 := by rw [← hW1]; simp
    have hc2 : W1.cell? ⟨w.heap.size, 2, none⟩ = some (.string s) := by rw [← hW1]; simp
    have hc3 : W1.cell? ⟨w.heap.size, 3, none⟩ = some (.slice p l.length c) := by rw [← hW1]; simp
    rw [hW1]
    clear hW1
    go_loopw [1, 5] (fun v i wr => ∃ (j q : Nat), v = .int .i64 q ∧ i = .int .i64 j ∧ j ≤ l.length ∧ Hid (wts (l.drop j) q = wts l (n + 1 + s.size / 64)) ∧ Below (w.heap.size + 1) W1 wr) (fun _ i _ => l.length - (intOf i).toNat)
    case atStart => exact ⟨0, n + 1 + s.size / 64, by go_num, rfl, Nat.zero_le _, rfl, Below.refl _ _⟩
    case round =>
      obtain ⟨j, q, rfl, rfl, hj, HQ, hb⟩ := hrel
      have d3 : wr.cell? ⟨w.heap.size, 3, none⟩ = some (.slice p l.length c) := (hb.cell (p := ⟨w.heap.size, 3, none⟩) (by simp)).trans hc3
      have hend : ∀ (q' : Nat), ¬ j < l.length ∨ 100000 < q → Hid (wts (l.drop j) q = wts l (n + 1 + s.size / 64)) → (q : Int) = (wts l (n + 1 + s.size / 64) : Nat) := fun _ h h' => by
        have := h'.out
        rcases h with h | h
        · obtain rfl : j = l.length := by omega
          rw [wts_end] at this; omega
        · rw [wts_big _ h] at this; omega
      have hE := Lib.hid hend; clear hend
      by_cases hlt : j < l.length
      · by_cases hq : q ≤ 100000
        · rcases HL.out with ⟨h0, _⟩ | ⟨b, off, c', hp, hbB, _, hel⟩
          · rw [h0] at hlt; exact absurd hlt (by simp)
          · cases hp
            obtain ⟨t, ht⟩ : ∃ t, l[j]? = some t := ⟨_, List.getElem?_eq_getElem hlt⟩
            obtain ⟨hf, lv, hat, hl⟩ := hel j t ht
            have hbw : Below B w wr := (below_boxed (o := .cells #[.int .i64 k, .int .u64 m, .string s, .slice (some ⟨b, off, none⟩) l.length c, .int .i64 e] 42) (by rw [HW1.out]; exact hb)).mono hB
            obtain ⟨e0, e1, e2, e3, e4⟩ := hat.below hbw hbB
            have hl' := Lib.hid (hl.below hbw)
            have hzw : w.heap.size + 1 ≤ wr.heap.size := by have := hb.size; omega
            have hst := Lib.hid (wts_step ht hq)
            have hwt := Lib.hid (wt_eq t q)
            clear hel hl hat
            have htx : t.text.size ≤ 9223372036854775807 := hf.x1
            clear ht
            go_wp2_with (go_at_call 37; refine (ih B t.kind t.num t.text t.elem t.list lv q wr hl'.out (by omega) htx hq).mono ?_; rintro r w2 ⟨rfl, hb2⟩)
            go_roundw
            case rel => exact ⟨j + 1, _, rfl, by go_num, by omega, by rw [← hwt.out, ← hst.out]; exact HQ.out, hb.trans (hb2.mono (by omega))⟩
            case measure => simp [intOf]; omega
        · go_wp2
          go_ret
          exact ⟨ret_int (hE.out q (.inr (by omega)) HQ), below_boxed (by rw [HW1.out]; exact hb)⟩
      · go_wp2
        all_goals
          go_ret
          exact ⟨ret_int (hE.out q (.inl hlt) HQ), below_boxed (by rw [HW1.out]; exact hb)⟩

theorem weigh_any {N B : Nat} {t : VT} {v : Value} {n : Nat} {w : World} (h : VAt B w N v t) (hB : B ≤ w.heap.size) (hn : n ≤ 100000) :
    Calls Tryz.prog 37 #[v, .int .i64 n] w fun r w' => r = .returned (.int .i64 (wt t n : Nat)) ∧ Below w.heap.size w w' := by
  obtain ⟨hf, lv, rfl, hl⟩ := h
  rw [wt_eq]
  exact weigh_raw N B _ _ _ _ _ lv n w hl hB hf.x1 hn

set_option maxRecDepth 100000 in
theorem great_raw {N B : Nat} {k m : Int} {s : ByteArray} {e : Int} {l : List VT} {lv : Value} {w : World} (hl : LAt B w N lv l) (hf : (VT.mk k m s e l).Fine) (hB : B ≤ w.heap.size) :
    Calls Tryz.prog 24 #[.agg #[.int .i64 k, .int .u64 m, .string s, lv, .int .i64 e]] w fun r w' => r = .returned (.bool (decide (100000 < wt (.mk k m s e l) 0))) ∧ Below w.heap.size w w' := by
  have HL := Lib.hid hl; clear hl
  go_enter Tryz.func24, Tryz.ntmps24
  have hb0 : Below w.heap.size w (w.alloc (.cells #[.int .i64 k, .int .u64 m, .string s, lv, .int .i64 e] 42)) := (Below.refl _ _).alloc (Nat.le_refl _) _
  go_wp2_with (go_at_call 37; refine (weigh_any (n := 0) (N := N) (B := B) (t := .mk k m s e l) ⟨hf, lv, rfl, HL.out.below (hb0.mono hB)⟩ (by simp; omega) (by omega)).mono ?_; rintro r w2 ⟨rfl, hb2⟩)
  all_goals
    go_ret
    refine ⟨ret_bool ?_, hb0.trans (hb2.mono (by simp))⟩
    first
      | rfl
      | (rw [Bool.eq_iff_iff]; simp; omega)
theorem great_any {N B : Nat} {t : VT} {v : Value} {w : World} (h : VAt B w N v t) (hB : B ≤ w.heap.size) :
    Calls Tryz.prog 24 #[v] w fun r w' => r = .returned (.bool (decide (100000 < wt t 0))) ∧ Below w.heap.size w w' := by
  obtain ⟨hf, lv, rfl, hl⟩ := h
  obtain ⟨k, m, s, e, l⟩ := t
  exact great_raw hl hf hB
end Go.Proofs.YtfoiaiblggapeaaGreatDoor.Va
