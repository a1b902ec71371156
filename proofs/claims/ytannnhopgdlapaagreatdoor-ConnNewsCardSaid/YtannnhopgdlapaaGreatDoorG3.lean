/-
  What makes a stream, a client's guard: the program's and the reference's. No condition.
-/
import Derived.Test.YtannnhopgdlapaaGreatDoorG2
import Derived.Laws.EntriesVeiled
namespace Go.Proofs.YtannnhopgdlapaaGreatDoor.Uc
open Go Go.RowKit Go.Proofs.Nu

/-- Something was made, or nothing. -/
def MadeAns (ok : Bool) (w : World) (r : Ending) (w' : World) : Prop := Below w.heap.size w w' ∧ ((ok = true ∧ ∃ b, r = .returned (.pointer (some ⟨b, 0, none⟩)) ∧ w.heap.size ≤ b ∧ b < w'.heap.size) ∨ (ok = false ∧ r = .returned (.pointer none)))
theorem below_boxes (w : World) (o : Obj) : Below w.heap.size w (w.alloc o) := (Below.refl _ _).alloc (Nat.le_refl _) _
theorem made_alloc (w : World) (o : Obj) : MadeAns true w (.returned (.pointer (some ⟨w.heap.size, 0, none⟩))) (w.alloc o) := ⟨(Below.refl _ _).alloc (Nat.le_refl _) _, .inl ⟨rfl, _, rfl, Nat.le_refl _, by rw [show (w.alloc o).heap.size = w.heap.size + 1 from Array.size_push ..]; omega⟩⟩
theorem size_alloc (w : World) (o : Obj) : (w.alloc o).heap.size = w.heap.size + 1 := Array.size_push ..
theorem made_none {w w' : World} (h : Below w.heap.size w w') : MadeAns false w (.returned (.pointer none)) w' := ⟨h, .inr ⟨rfl, rfl⟩⟩
theorem made_alloc2 (w : World) (o1 o2 : Obj) : MadeAns true w (.returned (.pointer (some ⟨w.heap.size + 1, 0, none⟩))) ((w.alloc o1).alloc o2) :=
  ⟨(below_boxes w o1).alloc (by rw [size_alloc]; omega) _, .inl ⟨rfl, _, rfl, by omega, by rw [size_alloc, size_alloc]; omega⟩⟩
theorem made_alloc3 (w : World) (o1 o2 o3 : Obj) : MadeAns true w (.returned (.pointer (some ⟨w.heap.size + 1 + 1, 0, none⟩))) (((w.alloc o1).alloc o2).alloc o3) :=
  ⟨((below_boxes w o1).alloc (by rw [size_alloc]; omega) _).alloc (by rw [size_alloc, size_alloc]; omega) _, .inl ⟨rfl, _, rfl, by omega, by rw [size_alloc, size_alloc, size_alloc]; omega⟩⟩
theorem made_eq {a b : Bool} (h : a = b) {w w' : World} {r : Ending} (k : MadeAns b w r w') : MadeAns a w r w' := h ▸ k
def mostT (n : Int) : Bool := decide (512 ≤ n) && decide (n ≤ 1048576)
theorem mostT_iff (n : Int) : mostT n = true ↔ 512 ≤ n ∧ n ≤ 1048576 := by simp [mostT]
theorem mostT_not (n : Int) : mostT n = false ↔ ¬ (512 ≤ n ∧ n ≤ 1048576) := by rw [← mostT_iff]; simp

set_option maxRecDepth 100000 in
theorem isMost_any (n : Int) (w : World) : Calls Tryz.prog 43 #[.int .i64 n] w fun r w' => r = .returned (.bool (mostT n)) ∧ w' = w := by
  go_enter Tryz.func43, Tryz.ntmps43
  go_wp2
  all_goals
    go_ret
    refine ⟨ret_bool ?_, rfl⟩
    rw [Bool.eq_iff_iff]
    simp [mostT]
    try omega

set_option maxRecDepth 100000 in
theorem rstream_any (n : Int) (w : World) : Calls Tryz.prog 22 #[.int .i64 n] w (MadeAns (mostT n) w) := by
  by_cases h : 512 ≤ n ∧ n ≤ 1048576
  · have hT := Lib.hid ((mostT_iff n).2 h)
    obtain ⟨h1, h2⟩ := h
    go_enter Tryz.func22, Tryz.ntmps22
    go_wp2
    go_ret
    rw [hT.out]
    exact made_alloc _ _
  · have hT := Lib.hid ((mostT_not n).2 h)
    go_enter Tryz.func22, Tryz.ntmps22
    go_wp2
    all_goals
      go_ret
      exact ⟨Below.refl _ _, .inr ⟨hT.out, rfl⟩⟩

set_option maxRecDepth 100000 in
theorem stream_any (n : Int) (w : World) : Calls Tryz.prog 17 #[.int .i64 n] w (MadeAns (mostT n) w) := by
  have HC := Lib.hid (isMost_any n w)
  obtain ⟨X, hX⟩ : ∃ X, mostT n = X := ⟨_, rfl⟩
  rw [hX] at HC ⊢
  clear hX
  cases X
  all_goals
    go_enter Tryz.func17, Tryz.ntmps17
    go_wp2_with (go_at_call 43; refine HC.out.mono ?_; rintro e w2 ⟨rfl, rfl⟩)
    go_ret
    first
    | exact ⟨Below.refl _ _, .inr ⟨rfl, rfl⟩⟩
    | exact made_alloc _ _
    | trace_state

set_option maxRecDepth 100000 in
theorem client_any (m n s : ByteArray) (w : World) : Calls Tryz.prog 20 #[.string m, .agg #[.string n, .string s]] w (MadeAns (clientOk m (n, s)) w) := by
  have hO : nameO.toList = [111, 112, 101, 110] := by rw [Lib.toList_data]; rfl
  have HM := Lib.hid (fun w => mech_any m w)
  have HA := Lib.hid (fun w => may_any n 1 w)
  have HB := Lib.hid (fun w => may_any s 0 w)
  unfold MechAns at HM
  unfold clientOk
  rw [hO]
  obtain ⟨K, hK⟩ : ∃ K, knownT m = K := ⟨_, rfl⟩
  obtain ⟨X, hX⟩ : ∃ X, mayT n 1 = X := ⟨_, rfl⟩
  obtain ⟨Y, hY⟩ : ∃ Y, mayT s 0 = Y := ⟨_, rfl⟩
  show Calls _ _ _ _ (MadeAns (knownT m && ((m.toList == [111, 112, 101, 110]) || (mayT n 1 && mayT s 0))) w)
  rw [hK, hX, hY]
  rw [hK] at HM
  rw [hX] at HA
  rw [hY] at HB
  clear hK hX hY hO
  go_enter Tryz.func20, Tryz.ntmps20
  go_wp2_with (fail)
  refine (HM.out _).mono ?_
  rintro e w2 ⟨rfl, (⟨rfl, t, rfl⟩ | ⟨rfl, rfl⟩)⟩
  · by_cases ho : (m.toList == [111, 112, 101, 110]) = true
    · go_wp2_with (fail)
      go_ret
      exact made_eq (by first | rfl | (simp only [ho]; rfl) | (simp only [ho']; rfl)) (made_alloc3 _ _ _ _)
    · have ho' : (m.toList == [111, 112, 101, 110]) = false := by simpa using ho
      clear ho
      go_wp2_with (fail)
      refine (HA.out _).mono ?_
      rintro e w2 ⟨rfl, rfl⟩
      cases X with
      | false =>
        go_wp2_with (fail)
        go_ret
        exact made_eq (by first | rfl | (simp only [ho']; rfl)) (made_none (below_boxes _ _))
      | true =>
        go_wp2_with (fail)
        refine (HB.out _).mono ?_
        rintro e w2 ⟨rfl, rfl⟩
        cases Y with
        | false =>
          go_wp2_with (fail)
          go_ret
          exact made_eq (by first | rfl | (simp only [ho']; rfl)) (made_none (below_boxes _ _))
        | true =>
          go_wp2_with (fail)
          go_ret
          exact made_eq (by first | rfl | (simp only [ho]; rfl) | (simp only [ho']; rfl)) (made_alloc3 _ _ _ _)
  · go_wp2_with (fail)
    go_ret
    exact made_eq (by first | rfl | (simp only [ho']; rfl)) (made_none (below_boxes _ _))

set_option maxRecDepth 100000 in
theorem rclient_any (m n s : ByteArray) (w : World) : Calls Tryz.prog 24 #[.string m, .agg #[.string n, .string s]] w (MadeAns (clientOk m (n, s)) w) := by
  have hO : nameO.toList = [111, 112, 101, 110] := by rw [Lib.toList_data]; rfl
  have HM := Lib.hid (fun w => known_any m w)
  have HA := Lib.hid (fun w => rname_any n 1 w)
  have HB := Lib.hid (fun w => rname_any s 0 w)
  unfold clientOk
  rw [hO]
  obtain ⟨K, hK⟩ : ∃ K, knownT m = K := ⟨_, rfl⟩
  obtain ⟨X, hX⟩ : ∃ X, mayT n 1 = X := ⟨_, rfl⟩
  obtain ⟨Y, hY⟩ : ∃ Y, mayT s 0 = Y := ⟨_, rfl⟩
  show Calls _ _ _ _ (MadeAns (knownT m && ((m.toList == [111, 112, 101, 110]) || (mayT n 1 && mayT s 0))) w)
  rw [hK, hX, hY]
  rw [hK] at HM
  rw [hX] at HA
  rw [hY] at HB
  clear hK hX hY hO
  go_enter Tryz.func24, Tryz.ntmps24
  go_wp2_with (fail)
  refine (HM.out _).mono ?_
  rintro e w2 ⟨rfl, rfl⟩
  cases K with
  | false =>
    go_wp2_with (fail)
    go_ret
    exact made_eq (by first | rfl | (simp only [ho']; rfl)) (made_none (below_boxes _ _))
  | true =>
    go_wp2_with (fail)
    refine (HA.out _).mono ?_
    rintro e w2 ⟨rfl, rfl⟩
    go_wp2_with (fail)
    refine (HB.out _).mono ?_
    rintro e w2 ⟨rfl, rfl⟩
    by_cases ho : (m.toList == [111, 112, 101, 110]) = true
    · go_wp2_with (fail)
      go_ret
      exact made_eq (by first | rfl | (simp only [ho]; rfl) | (simp only [ho']; rfl)) (made_alloc2 _ _ _)
    · have ho' : (m.toList == [111, 112, 101, 110]) = false := by simpa using ho
      clear ho
      cases X <;> cases Y
      all_goals
        go_wp2_with (fail)
        go_ret
        first
        | exact made_eq (by first | rfl | (simp only [ho']; rfl)) (made_none (below_boxes _ _))
        | exact made_eq (by first | rfl | (simp only [ho]; rfl) | (simp only [ho']; rfl)) (made_alloc2 _ _ _)
end Go.Proofs.YtannnhopgdlapaaGreatDoor.Uc
