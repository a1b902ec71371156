/-
  The leaves of a connection's making: texts, names, mechanisms, streams; the program's and the reference's. Condition: the tables of unicode/utf8 lie as the program's text lays them.
-/
import Derived.Test.YtannnhopgdlapaaGreatDoorU1
import Derived.Test.YtannnhopgdlapaaGreatDoorNuConn
import Derived.Shelf.Small.Strs
import Derived.Lib.IndexAny
namespace Go.Proofs.YtannnhopgdlapaaGreatDoor.Uc
open Go Go.RowKit Go.Proofs.Nu

theorem ret_bool {a b : Bool} (h : a = b) : Ending.returned (.bool a) = .returned (.bool b) := by rw [h]

/-! ### The reference's Utf8 -/
theorem byte_int {s : ByteArray} {k : Nat} (h : k < s.size) : s[k].toNat = (s.get! k).toNat := by rw [get!_lt s k h]
set_option maxRecDepth 100000 in
theorem within_any (s : ByteArray) (k : Nat) (a b : Nat) (w : World) (hk : k ≤ 9223372036854775000) (hs : s.size ≤ 9223372036854775807) :
    Calls Tryz.prog 125 #[.string s, .int .i64 k, .int .i64 a, .int .i64 b] w fun r w' => r = .returned (.bool (wi s k a b)) ∧ w' = w := by
  obtain ⟨R, hR⟩ : ∃ R, wi s k a b = R := ⟨_, rfl⟩
  have hR' := hR
  unfold wi at hR'
  rw [hR]
  have HR := Lib.hid hR'
  clear hR hR'
  by_cases h : k < s.size
  · have hb := Lib.hid (byte_int h)
    have hi : (k : Int) < (s.size : Int) := by omega
    have h256 : (s[k].toNat : Int) ≤ 255 := by have := s[k].toNat_lt; omega
    go_enter Tryz.func125, Tryz.ntmps125
    go_wp2
    all_goals
      go_ret
      refine ⟨ret_bool ?_, rfl⟩
      rw [← HR.out, ← hb.out, Bool.eq_iff_iff]
      clear HR hb
      simp only [Bool.and_eq_true, decide_eq_true_eq] at *
      first | omega | (simp; omega)
  · have hi : (s.size : Int) ≤ (k : Int) := by omega
    go_enter Tryz.func125, Tryz.ntmps125
    go_wp2
    all_goals
      go_ret
      refine ⟨ret_bool ?_, rfl⟩
      rw [← HR.out, Bool.eq_iff_iff]
      clear HR
      simp only [Bool.and_eq_true, decide_eq_true_eq] at *
      first | omega | (simp; omega)

set_option maxRecDepth 100000 in
set_option maxHeartbeats 1000000 in
theorem tail_any (s : ByteArray) (k n : Nat) (w : World) (hk : k + n ≤ 9223372036854775000) (hs : s.size ≤ 9223372036854775807) :
    Calls Tryz.prog 230 #[.string s, .int .i64 k, .int .i64 n] w fun r w' => r = .returned (.bool (tl s k n)) ∧ w' = w := by
  go_enter Tryz.func230, Tryz.ntmps230
  go_wp2
  go_loop [7] (fun i => ∃ (j : Nat), i = .int .i64 j ∧ j ≤ n ∧ Hid (tl s (k + j) (n - j) = tl s k n)) (fun i => n - (intOf i).toNat)
  case atStart => exact ⟨0, rfl, Nat.zero_le _, rfl⟩
  case round =>
    obtain ⟨j, rfl, hj, HQ⟩ := hrel
    by_cases hlt : j < n
    · obtain ⟨X, hX⟩ : ∃ X, wi s (k + j) 128 191 = X := ⟨_, rfl⟩
      have HC := Lib.hid (fun w => within_any s (k + j) 128 191 w (by omega) hs)
      rw [hX] at HC
      have hst : Hid ((X && tl s (k + (j + 1)) (n - (j + 1))) = tl s k n) := by
        show _ = _
        rw [← HQ.out, show n - j = (n - (j + 1)) + 1 by omega, tl, hX]; rfl
      have hcast : (k : Int) + (j : Int) = ((k + j : Nat) : Int) := by omega
      have HCast := Lib.hid hcast
      clear hX hcast
      cases X with
      | true =>
        go_wp2_with (go_at_call 125; rw [HCast.out]; refine (HC.out _).mono ?_; rintro r w2 ⟨rfl, rfl⟩)
        go_round
        case rel => exact ⟨j + 1, by go_num, by omega, hst.out⟩
        case measure => simp [intOf]; omega
      | false =>
        go_wp2_with (go_at_call 125; rw [HCast.out]; refine (HC.out _).mono ?_; rintro r w2 ⟨rfl, rfl⟩)
        go_ret
        exact ⟨ret_bool hst.out, rfl⟩
    · obtain rfl : j = n := by omega
      go_wp2
      go_ret
      exact ⟨ret_bool (by rw [← HQ.out, Nat.sub_self]; rfl), rfl⟩

set_option maxRecDepth 100000 in
set_option maxHeartbeats 1000000 in
theorem pair_any (s : ByteArray) (k a b c d n : Nat) (w : World) (hk : k ≤ 9223372036854770000) (hn : n ≤ 2) (hs : s.size ≤ 9223372036854775807) :
    Calls Tryz.prog 126 #[.string s, .int .i64 k, .int .i64 a, .int .i64 b, .int .i64 c, .int .i64 d, .int .i64 n] w fun r w' => r = .returned (.bool (pr s k a b c d n)) ∧ w' = w := by
  obtain ⟨X, hX⟩ : ∃ X, wi s k a b = X := ⟨_, rfl⟩
  obtain ⟨Y, hY⟩ : ∃ Y, wi s (k + 1) c d = Y := ⟨_, rfl⟩
  obtain ⟨Z, hZ⟩ : ∃ Z, tl s (k + 2) n = Z := ⟨_, rfl⟩
  have C1 := Lib.hid (fun w => within_any s k a b w (by omega) hs)
  have C2 := Lib.hid (fun w => within_any s (k + 1) c d w (by omega) hs)
  have C3 := Lib.hid (fun w => tail_any s (k + 2) n w (by omega) hs)
  rw [hX] at C1
  rw [hY] at C2
  rw [hZ] at C3
  have HR : Hid ((X && (Y && Z)) = pr s k a b c d n) := by show _ = _; unfold pr; rw [hX, hY, hZ]
  have h1 : Hid ((k : Int) + 1 = ((k + 1 : Nat) : Int)) := by show _ = _; omega
  have h2 : Hid ((k : Int) + 2 = ((k + 2 : Nat) : Int)) := by show _ = _; omega
  obtain ⟨R, hR⟩ : ∃ R, pr s k a b c d n = R := ⟨_, rfl⟩
  rw [hR] at HR ⊢
  clear hX hY hZ hR
  go_enter Tryz.func126, Tryz.ntmps126
  go_wp2_with (fail)
  refine (C1.out _).mono ?_
  rintro r w2 ⟨rfl, rfl⟩
  go_wp2_with (fail)
  rw [h1.out]
  refine (C2.out _).mono ?_
  rintro r w2 ⟨rfl, rfl⟩
  go_wp2_with (fail)
  rw [h2.out]
  refine (C3.out _).mono ?_
  rintro r w2 ⟨rfl, rfl⟩
  cases X <;> cases Y <;> cases Z
  all_goals
    go_wp2
    go_ret
    exact ⟨ret_bool HR.out, rfl⟩

set_option maxRecDepth 100000 in
set_option maxHeartbeats 2000000 in
theorem char_any (s : ByteArray) (k : Nat) (w : World) (hk : k ≤ 9223372036854770000) (hs : s.size ≤ 9223372036854775807) :
    Calls Tryz.prog 88 #[.string s, .int .i64 k] w fun r w' => r = .returned (.int .i64 (ch s k : Nat)) ∧ w' = w := by
  obtain ⟨X0, h0⟩ : ∃ X, wi s k 0 127 = X := ⟨_, rfl⟩
  have K0 : Hid (∀ w, Calls Tryz.prog 125 #[.string s, .int .i64 k, .int .i64 0, .int .i64 127] w fun r w' => r = .returned (.bool X0) ∧ w' = w) := fun w => by have := within_any s k 0 127 w (by omega) hs; rw [h0] at this; exact this
  obtain ⟨XE1, hE1⟩ : ∃ X, pr s k 194 223 128 191 0 = X := ⟨_, rfl⟩
  have KE1 : Hid (∀ w, Calls Tryz.prog 126 #[.string s, .int .i64 k, .int .i64 194, .int .i64 223, .int .i64 128, .int .i64 191, .int .i64 0] w fun r w' => r = .returned (.bool XE1) ∧ w' = w) := fun w => by have := pair_any s k 194 223 128 191 0 w hk (by omega) hs; rw [hE1] at this; exact this
  obtain ⟨XA1, hA1⟩ : ∃ X, pr s k 224 224 160 191 1 = X := ⟨_, rfl⟩
  have KA1 : Hid (∀ w, Calls Tryz.prog 126 #[.string s, .int .i64 k, .int .i64 224, .int .i64 224, .int .i64 160, .int .i64 191, .int .i64 1] w fun r w' => r = .returned (.bool XA1) ∧ w' = w) := fun w => by have := pair_any s k 224 224 160 191 1 w hk (by omega) hs; rw [hA1] at this; exact this
  obtain ⟨XA2, hA2⟩ : ∃ X, pr s k 225 236 128 191 1 = X := ⟨_, rfl⟩
  have KA2 : Hid (∀ w, Calls Tryz.prog 126 #[.string s, .int .i64 k, .int .i64 225, .int .i64 236, .int .i64 128, .int .i64 191, .int .i64 1] w fun r w' => r = .returned (.bool XA2) ∧ w' = w) := fun w => by have := pair_any s k 225 236 128 191 1 w hk (by omega) hs; rw [hA2] at this; exact this
  obtain ⟨XA3, hA3⟩ : ∃ X, pr s k 237 237 128 159 1 = X := ⟨_, rfl⟩
  have KA3 : Hid (∀ w, Calls Tryz.prog 126 #[.string s, .int .i64 k, .int .i64 237, .int .i64 237, .int .i64 128, .int .i64 159, .int .i64 1] w fun r w' => r = .returned (.bool XA3) ∧ w' = w) := fun w => by have := pair_any s k 237 237 128 159 1 w hk (by omega) hs; rw [hA3] at this; exact this
  obtain ⟨XA4, hA4⟩ : ∃ X, pr s k 238 239 128 191 1 = X := ⟨_, rfl⟩
  have KA4 : Hid (∀ w, Calls Tryz.prog 126 #[.string s, .int .i64 k, .int .i64 238, .int .i64 239, .int .i64 128, .int .i64 191, .int .i64 1] w fun r w' => r = .returned (.bool XA4) ∧ w' = w) := fun w => by have := pair_any s k 238 239 128 191 1 w hk (by omega) hs; rw [hA4] at this; exact this
  obtain ⟨XB1, hB1⟩ : ∃ X, pr s k 240 240 144 191 2 = X := ⟨_, rfl⟩
  have KB1 : Hid (∀ w, Calls Tryz.prog 126 #[.string s, .int .i64 k, .int .i64 240, .int .i64 240, .int .i64 144, .int .i64 191, .int .i64 2] w fun r w' => r = .returned (.bool XB1) ∧ w' = w) := fun w => by have := pair_any s k 240 240 144 191 2 w hk (by omega) hs; rw [hB1] at this; exact this
  obtain ⟨XB2, hB2⟩ : ∃ X, pr s k 241 243 128 191 2 = X := ⟨_, rfl⟩
  have KB2 : Hid (∀ w, Calls Tryz.prog 126 #[.string s, .int .i64 k, .int .i64 241, .int .i64 243, .int .i64 128, .int .i64 191, .int .i64 2] w fun r w' => r = .returned (.bool XB2) ∧ w' = w) := fun w => by have := pair_any s k 241 243 128 191 2 w hk (by omega) hs; rw [hB2] at this; exact this
  obtain ⟨XB3, hB3⟩ : ∃ X, pr s k 244 244 128 143 2 = X := ⟨_, rfl⟩
  have KB3 : Hid (∀ w, Calls Tryz.prog 126 #[.string s, .int .i64 k, .int .i64 244, .int .i64 244, .int .i64 128, .int .i64 143, .int .i64 2] w fun r w' => r = .returned (.bool XB3) ∧ w' = w) := fun w => by have := pair_any s k 244 244 128 143 2 w hk (by omega) hs; rw [hB3] at this; exact this
  obtain ⟨R, hR⟩ : ∃ R, ch s k = R := ⟨_, rfl⟩
  have HR : Hid ((if X0 then 1 else if XE1 then 2 else if (XA1 || (XA2 || (XA3 || XA4))) then 3 else if (XB1 || (XB2 || XB3)) then 4 else 0) = R) := by
    show _ = _
    rw [← hR]; unfold ch; rw [h0, hE1, hA1, hA2, hA3, hA4, hB1, hB2, hB3]
  rw [hR]
  clear hR h0 hE1 hA1 hA2 hA3 hA4 hB1 hB2 hB3
  go_enter Tryz.func88, Tryz.ntmps88
  go_wp2_with (first
    | (go_at_call 125; ((with_reducible refine (K0.out _).mono ?_); rintro r w2 ⟨rfl, rfl⟩))
    | (go_at_call 126; ((with_reducible refine (KE1.out _).mono ?_); rintro r w2 ⟨rfl, rfl⟩))
    | (go_at_call 126; ((with_reducible refine (KA1.out _).mono ?_); rintro r w2 ⟨rfl, rfl⟩))
    | (go_at_call 126; ((with_reducible refine (KA2.out _).mono ?_); rintro r w2 ⟨rfl, rfl⟩))
    | (go_at_call 126; ((with_reducible refine (KA3.out _).mono ?_); rintro r w2 ⟨rfl, rfl⟩))
    | (go_at_call 126; ((with_reducible refine (KA4.out _).mono ?_); rintro r w2 ⟨rfl, rfl⟩))
    | (go_at_call 126; ((with_reducible refine (KB1.out _).mono ?_); rintro r w2 ⟨rfl, rfl⟩))
    | (go_at_call 126; ((with_reducible refine (KB2.out _).mono ?_); rintro r w2 ⟨rfl, rfl⟩))
    | (go_at_call 126; ((with_reducible refine (KB3.out _).mono ?_); rintro r w2 ⟨rfl, rfl⟩)))
  all_goals
    go_ret
    refine ⟨ret_int ?_, rfl⟩
    rw [← HR.out]
    clear HR K0 KE1 KA1 KA2 KA3 KA4 KB1 KB2 KB3
    simp_all

set_option maxRecDepth 100000 in
set_option maxHeartbeats 1000000 in
theorem rutf8_any (s : ByteArray) (w : World) (hs : s.size ≤ 9223372036854770000) :
    Calls Tryz.prog 49 #[.string s] w fun e w' => e = .returned (.int .i64 (utf s)) ∧ w' = w := by
  go_enter Tryz.func49, Tryz.ntmps49
  go_wp2
  go_loop [3] (fun i => ∃ (k : Nat), i = .int .i64 k ∧ k ≤ s.size ∧ Hid (utfFrom s k = utf s)) (fun i => s.size - (intOf i).toNat)
  case atStart => exact ⟨0, rfl, Nat.zero_le _, rfl⟩
  case round =>
    obtain ⟨k, rfl, hk, HQ⟩ := hrel
    by_cases hlt : k < s.size
    · have hC := char_any s k w (by omega) (by omega)
      have hfit := ch_fit (s := s) (k := k)
      have hle := ch_le s k
      by_cases hz : ch s k = 0
      · have HE : Hid (utf s = k) := HQ.out.symm.trans (utf_bad hlt hz)
        rw [hz] at hC
        have HC := Lib.hid hC
        clear hz hfit hle hC
        go_wp2_with (go_at_call 88; refine HC.out.mono ?_; rintro e w2 ⟨rfl, rfl⟩)
        go_ret
        exact ⟨ret_int HE.out.symm, rfl⟩
      · have hf := hfit hz
        have HE : Hid (utfFrom s (k + ch s k) = utf s) := (utf_step hlt hz).symm.trans HQ.out
        obtain ⟨c, hc⟩ : ∃ c, ch s k = c := ⟨_, rfl⟩
        rw [hc] at hC hf hle hz HE
        have HC := Lib.hid hC
        have hc1 : 1 ≤ (c : Int) := by omega
        clear hz hfit hC hc
        go_wp2_with (go_at_call 88; refine HC.out.mono ?_; rintro e w2 ⟨rfl, rfl⟩)
        go_round
        case rel => exact ⟨k + c, by go_num, by omega, HE.out⟩
        case measure => simp [intOf]; omega
    · obtain rfl : k = s.size := by omega
      go_wp2
      go_ret
      exact ⟨ret_int (by rw [← HQ.out, utf_end hlt]), rfl⟩
theorem utf_ge (s : ByteArray) : -1 ≤ utf s := by
  unfold utf utfFrom
  split <;> omega

/-! ### Texts, names -/
set_option maxRecDepth 100000 in
theorem text_any (s : ByteArray) (lo hi : Int) (w : World) (hT : Tabs w) (hs : s.size ≤ 9223372036854770000) :
    Calls Tryz.prog 16 #[.string s, .int .i64 lo, .int .i64 hi] w fun r w' => r = .returned (.bool (txtT s lo hi)) ∧ Below w.heap.size w w' := by
  have HU := Lib.hid (utf8_any s w hT (by omega))
  obtain ⟨U, hU⟩ : ∃ U, utf s = U := ⟨_, rfl⟩
  have HR : Hid ((decide (lo ≤ s.size) && (decide ((s.size : Int) ≤ hi) && decide (U < 0))) = txtT s lo hi) := by show _ = _; unfold txtT; rw [hU]
  rw [hU] at HU
  obtain ⟨R, hR⟩ : ∃ R, txtT s lo hi = R := ⟨_, rfl⟩
  rw [hR] at HR ⊢
  clear hU hR hT
  go_enter Tryz.func16, Tryz.ntmps16
  go_wp2_with (go_at_call 42; refine HU.out.mono ?_; rintro e w2 ⟨rfl, hb2⟩)
  all_goals
    go_ret
    refine ⟨ret_bool ?_, by first | exact hb2 | exact Below.refl _ _⟩
    rw [← HR.out]
    clear HR HU
    go_light
    simp_all
  all_goals omega
set_option maxRecDepth 100000 in
theorem rtext_any (s : ByteArray) (lo hi : Int) (w : World) (hs : s.size ≤ 9223372036854770000) :
    Calls Tryz.prog 21 #[.string s, .int .i64 lo, .int .i64 hi] w fun r w' => r = .returned (.bool (txtT s lo hi)) ∧ w' = w := by
  have HU := Lib.hid (rutf8_any s w hs)
  have hge := utf_ge s
  obtain ⟨U, hU⟩ : ∃ U, utf s = U := ⟨_, rfl⟩
  have HR : Hid ((decide (lo ≤ s.size) && (decide ((s.size : Int) ≤ hi) && decide (U < 0))) = txtT s lo hi) := by show _ = _; unfold txtT; rw [hU]
  rw [hU] at HU hge
  obtain ⟨R, hR⟩ : ∃ R, txtT s lo hi = R := ⟨_, rfl⟩
  rw [hR] at HR ⊢
  clear hU hR
  go_enter Tryz.func21, Tryz.ntmps21
  go_wp2_with (go_at_call 49; refine HU.out.mono ?_; rintro e w2 ⟨rfl, rfl⟩)
  all_goals
    go_ret
    refine ⟨ret_bool ?_, rfl⟩
    rw [← HR.out]
    clear HR HU
    go_light
    rw [Bool.eq_iff_iff]
    simp
    omega
theorem zero_index (l : List UInt8) : decide (Lib.indexByte l 0 < 0) = l.all fun x => decide (x.toNat ≠ 0) := by
  have h := Lib.contains_iff_indexByte l 0
  by_cases h0 : Lib.indexByte l 0 < 0
  · have h1 : l.contains 0 = false := by rw [h]; simp; omega
    have : (l.all fun x => decide (x.toNat ≠ 0)) = true := by
      rw [List.all_eq_true]
      intro x hx
      simp only [ne_eq, decide_not, Bool.not_eq_true', decide_eq_false_iff_not]
      intro e
      have hx0 : x = 0 := by apply UInt8.toNat_inj.1; simpa using e
      subst hx0
      rw [List.contains_iff_mem.2 hx] at h1
      cases h1
    rw [this]; simpa using h0
  · have h1 : l.contains 0 = true := by rw [h]; simp; omega
    have : (l.all fun x => decide (x.toNat ≠ 0)) = false := by
      rw [List.all_eq_false]
      exact ⟨0, List.contains_iff_mem.1 h1, by simp⟩
    rw [this]; simpa using h0
set_option maxRecDepth 100000 in
theorem may_any (s : ByteArray) (lo : Int) (w : World) :
    Calls Tryz.prog 47 #[.string s, .int .i64 lo] w fun r w' => r = .returned (.bool (mayT s lo)) ∧ w' = w := by
  have hI := Any.strings_IndexByte Tryz.idx137 s 0 w
  change Calls Tryz.prog 87 _ _ _ at hI
  have HI := Lib.hid hI
  have hz := zero_index s.data.toList
  obtain ⟨U, hU⟩ : ∃ U, Lib.indexByte s.data.toList 0 = U := ⟨_, rfl⟩
  have HR : Hid ((decide (lo ≤ s.size) && (decide (s.size ≤ 64) && decide (U < 0))) = mayT s lo) := by show _ = _; unfold mayT; rw [← hz, hU]
  have e0 : ((0 : Int).toNat.toUInt8) = (0 : UInt8) := rfl
  rw [e0, hU] at HI
  obtain ⟨R, hR⟩ : ∃ R, mayT s lo = R := ⟨_, rfl⟩
  rw [hR] at HR ⊢
  clear hU hR hI hz e0
  go_enter Tryz.func47, Tryz.ntmps47
  go_wp2_with (go_at_call 87; refine HI.out.mono ?_; rintro e w2 ⟨rfl, rfl⟩)
  all_goals
    go_ret
    refine ⟨ret_bool ?_, rfl⟩
    rw [← HR.out]
    clear HR HI
    go_light
    rw [Bool.eq_iff_iff]
    simp
    omega
theorem txt_long {s : ByteArray} {lo hi : Int} (h : hi < s.size) : txtT s lo hi = false := by
  unfold txtT
  have : decide ((s.size : Int) ≤ hi) = false := by simpa using h
  rw [this]; simp
set_option maxRecDepth 100000 in
theorem text_all (s : ByteArray) (lo hi : Int) (w : World) (hT : Tabs w) (hh : hi ≤ 1000000) :
    Calls Tryz.prog 16 #[.string s, .int .i64 lo, .int .i64 hi] w fun r w' => r = .returned (.bool (txtT s lo hi)) ∧ Below w.heap.size w w' := by
  by_cases hs : s.size ≤ 9223372036854770000
  · exact text_any s lo hi w hT hs
  · have h : hi < s.size := by omega
    have HR := Lib.hid (txt_long (lo := lo) h)
    rw [HR.out]
    go_enter Tryz.func16, Tryz.ntmps16
    go_wp2
    all_goals
      go_ret
      exact ⟨rfl, Below.refl _ _⟩
set_option maxRecDepth 100000 in
theorem rtext_all (s : ByteArray) (lo hi : Int) (w : World) (hh : hi ≤ 1000000) :
    Calls Tryz.prog 21 #[.string s, .int .i64 lo, .int .i64 hi] w fun r w' => r = .returned (.bool (txtT s lo hi)) ∧ w' = w := by
  by_cases hs : s.size ≤ 9223372036854770000
  · exact rtext_any s lo hi w hs
  · have h : hi < s.size := by omega
    have HR := Lib.hid (txt_long (lo := lo) h)
    rw [HR.out]
    go_enter Tryz.func21, Tryz.ntmps21
    go_wp2
    all_goals
      go_ret
      exact ⟨rfl, rfl⟩
end Go.Proofs.YtannnhopgdlapaaGreatDoor.Uc
