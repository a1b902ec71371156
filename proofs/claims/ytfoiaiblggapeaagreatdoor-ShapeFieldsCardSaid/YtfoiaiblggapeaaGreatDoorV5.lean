/-
  The reference's Kind: the same answer as the program's. No condition but that the value lies so.
-/
import Derived.Test.YtfoiaiblggapeaaGreatDoorV4
namespace Go.Proofs.YtfoiaiblggapeaaGreatDoor.Va
open Go Go.RowKit Go.Proofs.Nu Go.Proofs.YtfoiaiblggapeaaGreatDoor.Nm

theorem lit_at (B : Nat) (w : World) (N : Nat) (k m : Int) (s : ByteArray) (h0 : 0 ≤ m) (h1 : m ≤ 18446744073709551615) (hk0 : 0 ≤ k) (hk1 : k ≤ 100) (hs : s.size ≤ 9223372036854775807) :
    VAt B w (N + 1) (.agg #[.int .i64 k, .int .u64 m, .string s, .slice none 0 0, .int .i64 0]) (.mk k m s 0 []) :=
  ⟨⟨by show _ ≤ k; omega, by show k ≤ _; omega, h0, h1, by show _ ≤ (0 : Int); omega, by show (0 : Int) ≤ _; omega, hs⟩, _, rfl, .inl ⟨rfl, _, _, rfl⟩⟩
theorem hit_of_eq {d : VT} {q : Int} {X Y : Bool} (hn : nameL q ≠ []) (hx : eqT d (.mk 5 q empt 0 []) = X) (hy : eqT d (.mk 20 0 (nameB q) 0 []) = Y) : hitR d q = (X || Y) := by
  unfold hitR
  rw [hx, hy]
  have : nameL q ≠ [] := hn
  cases hh : nameL q with
  | nil => exact absurd hh hn
  | cons a l => rfl
theorem hit_no {d : VT} {q : Int} (hn : nameL q = []) : hitR d q = false := by
  unfold hitR; rw [hn]; rfl
theorem none_yet {d : VT} {q : Int} (h : ∀ i, 1 ≤ i → i < q → hitR d i = false) (hq : hitR d q = false) : ∀ i, 1 ≤ i → i < q + 1 → hitR d i = false := fun i h1 h2 => by
  by_cases hi : i = q
  · rw [hi]; exact hq
  · exact h i h1 (by omega)
theorem name_size (q : Int) : (nameB q).size ≤ 9223372036854775807 := by
  have : (nameL q).length ≤ 100 := by
    unfold nameL
    split
    · rename_i s hs
      obtain ⟨r, hr, hx⟩ := List.exists_of_findSome?_eq_some hs
      have h1 := hit_of hx
      obtain ⟨s', hs', hg⟩ := hit_some h1.1 h1.2
      rw [hx] at hs'
      cases hs'
      have := rows_len r hr s (List.mem_of_getElem? hg)
      have hf : (form q).length ≤ 6 := by unfold form; (repeat' split) <;> decide
      simp [lng]; omega
    · simp
  have h2 : (nameB q).size = (nameL q).length := by rw [Lib.size_eq]; rfl
  omega

set_option maxRecDepth 100000 in
set_option maxHeartbeats 2000000 in
theorem rkind_raw {N B : Nat} {k m : Int} {s : ByteArray} {e : Int} {l : List VT} {lv : Value} {w : World} (hl : LAt B w N lv l) (hf : (VT.mk k m s e l).Fine) (hB : B ≤ w.heap.size) :
    Calls Tryz.prog 49 #[.agg #[.int .i64 k, .int .u64 m, .string s, lv, .int .i64 e]] w fun r w' => r = .returned (kindAns (kindOf (.mk k m s e l))) ∧ Below w.heap.size w w' := by
  obtain ⟨p, c, rfl⟩ := hl.slice
  have hlen : l.length ≤ 9223372036854775807 := hl.len
  by_cases hd : k = 24 ∧ l.length = 2
  · obtain ⟨rfl, hl2⟩ := hd
    obtain ⟨d, x, rfl⟩ : ∃ d x, l = [d, x] := by
      match l, hl2 with
      | [d, x], _ => exact ⟨d, x, rfl⟩
    cases N with
    | zero => exact hl.elim
    | succ N =>
      rcases hl with ⟨h0, _⟩ | ⟨b, off, c', hp, hbB, _, hel⟩
      · cases h0
      cases hp
      obtain ⟨hfd, lv, hat, hld⟩ := hel 0 d rfl
      simp only [Nat.zero_mul, Nat.add_zero] at hat
      have hans : kindOf (.mk 24 m s e [d, x]) = findR d 1 199 := by simp [kindOf, VT.kind, VT.list, kindD]
      rw [hans]
      have hb0 : b < w.heap.size := by omega
      clear hel hans hf hlen hl2
      rw [show ([d, x] : List VT).length = 2 from rfl]
      obtain ⟨K, hK⟩ : ∃ K, findR d 1 199 = K := ⟨_, rfl⟩
      rw [hK]
      have HK := Lib.hid hK
      clear hK
      go_enter Tryz.func49, Tryz.ntmps49
      go_wp2
      obtain ⟨W1, hW1⟩ : ∃ W1, w.alloc (.cells #[.int .i64 24, .int .u64 m, .string s, .slice (some ⟨b, off, none⟩) 2 c, .int .i64 e] 42) = W1 := ⟨_, rfl⟩
      have hz1 : W1.heap.size = w.heap.size + 1 := by rw [← hW1]; simp
      have hc3 : W1.cell? ⟨w.heap.size, 3, none⟩ = some (.slice (some ⟨b, off, none⟩) 2 c) := by rw [← hW1]; simp
      have hb1 : Below w.heap.size w W1 := by rw [← hW1]; exact (Below.refl _ _).alloc (Nat.le_refl _) _
      rw [hW1]
      clear hW1
      have HF : Hid (∀ W, Below (w.heap.size + 1) W1 W → (W.cell? ⟨w.heap.size, 3, none⟩ = some (.slice (some ⟨b, off, none⟩) 2 c) ∧ W.cell? ⟨b, off, none⟩ = some (.int .i64 d.kind) ∧ W.cell? ⟨b, off + 1, none⟩ = some (.int .u64 d.num) ∧ W.cell? ⟨b, off + 2, none⟩ = some (.string d.text) ∧ W.cell? ⟨b, off + 3, none⟩ = some lv ∧ W.cell? ⟨b, off + 4, none⟩ = some (.int .i64 d.elem)) ∧ VAt B W (N + 1) (.agg #[.int .i64 d.kind, .int .u64 d.num, .string d.text, lv, .int .i64 d.elem]) d ∧ B ≤ W.heap.size) := fun W h => by
        have hw : Below B w W := (hb1.trans (h.mono (by omega))).mono hB
        obtain ⟨e0, e1, e2, e3, e4⟩ := hat.below hw hbB
        exact ⟨⟨(h.cell (p := ⟨w.heap.size, 3, none⟩) (by simp)).trans hc3, e0, e1, e2, e3, e4⟩, ⟨hfd, lv, rfl, (hld.below hw).mono (by omega)⟩, by have := h.size; omega⟩
      clear hat hld hc3
      go_loopw [4] (fun i wr => ∃ (q : Int), i = .int .i64 q ∧ 1 ≤ q ∧ q ≤ 200 ∧ Hid (∀ i, 1 ≤ i → i < q → hitR d i = false) ∧ Below (w.heap.size + 1) W1 wr) (fun i _ => (200 - intOf i).toNat)
      case atStart => exact ⟨1, rfl, by omega, by omega, fun i h1 h2 => by omega, Below.refl _ _⟩
      case round =>
        obtain ⟨q, rfl, hq0, hq1, HQ, hb⟩ := hrel
        have HBW : Hid (Below w.heap.size w wr) := hb1.trans (hb.mono (by omega))
        have hzw : w.heap.size + 1 ≤ wr.heap.size := by have := hb.size; omega
        have HB := Lib.hid hb
        clear hb
        by_cases hlt : q < 200
        · by_cases hne : nameL q = []
          · have hn1 : (nameB q).toList = [] := by rw [nameB_toList, hne]
            have HN := Lib.hid (hit_no (d := d) hne)
            clear hne
            go_wp2_with (go_at_call 11; refine (refName_any q _).mono ?_; rintro r w2 ⟨rfl, hb2⟩)
            go_roundw
            case rel => exact ⟨q + 1, rfl, by omega, by omega, none_yet HQ.out HN.out, HB.out.trans (hb2.mono (by omega))⟩
            case measure => simp [intOf]; omega
          · have hn1 : (!(nameB q).toList.isEmpty) = true := by rw [nameB_toList]; simpa using hne
            obtain ⟨X, hX⟩ : ∃ X, eqT d (.mk 5 q empt 0 []) = X := ⟨_, rfl⟩
            obtain ⟨Y, hY⟩ : ∃ Y, eqT d (.mk 20 0 (nameB q) 0 []) = Y := ⟨_, rfl⟩
            have HN := Lib.hid (hit_of_eq hne hX hY)
            have HX := Lib.hid hX
            have HY := Lib.hid hY
            have hsz := name_size q
            clear hne hX hY
            go_wp2_with (go_at_call 11; refine (refName_any q _).mono ?_; rintro r w2 ⟨rfl, hb2⟩; obtain ⟨⟨d3, e0, e1, e2, e3, e4⟩, hv2, hB2⟩ := HF.out _ (HB.out.trans (hb2.mono hzw)); have hv2 := Lib.hid hv2)
            refine (equal_any hv2.out (lit_at B _ N 5 q empt (by omega) (by omega) (by omega) (by omega) (by decide)) hB2).mono ?_
            rintro r w3 ⟨hr, hb3⟩
            rw [HX.out] at hr
            subst hr
            have HB3 := Lib.hid (HB.out.trans ((hb2.trans (hb3.mono hb2.size)).mono hzw))
            clear d3 e0 e1 e2 e3 e4 hv2
            obtain ⟨⟨d3, e0, e1, e2, e3, e4⟩, hv2, hB3⟩ := HF.out _ HB3.out
            have hv2 := Lib.hid hv2
            go_wp2_with (fail)
            refine (equal_any hv2.out (lit_at B _ N 20 0 (nameB q) (by omega) (by omega) (by omega) (by omega) hsz) hB3).mono ?_
            rintro r w4 ⟨hr, hb4⟩
            rw [HY.out] at hr
            subst hr
            have HB4 := Lib.hid (HB3.out.trans (hb4.mono (by have := HB3.out.size; omega)))
            clear d3 e0 e1 e2 e3 e4 hv2
            cases X <;> cases Y
            · go_wp2
              go_roundw
              case rel => exact ⟨q + 1, rfl, by omega, by omega, none_yet HQ.out HN.out, HB4.out⟩
              case measure => simp [intOf]; omega
            all_goals
              go_wp2
              go_ret2
              have HK2 : findR d 1 199 = some q := findR_some (by omega) (by omega) HN.out HQ.out
              exact ⟨by rw [← HK.out, HK2]; rfl, hb1.trans (HB4.out.mono (by omega))⟩
        · obtain rfl : q = 200 := by omega
          go_wp2
          go_ret2
          have HN : findR d 1 199 = none := findR_none fun i h1 h2 => HQ.out i h1 (by omega)
          exact ⟨by rw [← HK.out, HN]; rfl, HBW.out⟩
  · have hans : kindOf (.mk k m s e l) = none := if_neg hd
    rw [hans]
    have HD := Lib.hid hd
    clear hd hl
    go_enter Tryz.func49, Tryz.ntmps49
    go_wp2
    all_goals first
      | (go_ret2; exact ⟨rfl, (Below.refl _ _).alloc (Nat.le_refl _) _⟩)
      | (exfalso; exact HD.out ⟨(by assumption : k = 24), len_of_bne2 (by assumption)⟩)
theorem rkind_any {N B : Nat} {d : VT} {v : Value} {w : World} (h : VAt B w N v d) (hB : B ≤ w.heap.size) :
    Calls Tryz.prog 49 #[v] w fun r w' => r = .returned (kindAns (kindOf d)) ∧ Below w.heap.size w w' := by
  obtain ⟨hf, lv, rfl, hl⟩ := h
  obtain ⟨k, m, s, e, l⟩ := d
  exact rkind_raw hl hf hB
end Go.Proofs.YtfoiaiblggapeaaGreatDoor.Va
