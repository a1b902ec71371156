/-
  guard.NewServer: users judged one by one. No condition but that the users lie so.
-/
import Derived.Test.YtannnhopgdlapaaGreatDoorG5
namespace Go.Proofs.YtannnhopgdlapaaGreatDoor.Uc
open Go Go.RowKit Go.Proofs.Nu

/-- One user, as it stands in the list. -/
def okAt (us : List Usr) (i : Nat) : Bool := match us[i]? with
  | some u => !((us.take i).any fun x => x.1.toList == u.1.toList) && (mayT u.1 1 && mayT u.2 0)
  | none => true
theorem okAt_eq {us : List Usr} {i : Nat} {n s : ByteArray} (h : us[i]? = some (n, s)) : okAt us i = (!((us.take i).any (isNm n)) && (mayT n 1 && mayT s 0)) := by
  unfold okAt; rw [h]; rfl
theorem usersOk_all {us : List Usr} (h : us.length ≤ 32) (k : ∀ i, i < us.length → okAt us i = true) : usersOk us = true := by
  have : usersOk us = (decide (us.length ≤ 32) && (List.range us.length).all (okAt us)) := rfl
  rw [this, decide_eq_true h, Bool.true_and, List.all_eq_true]
  intro i hi
  exact k i (List.mem_range.1 hi)
theorem usersOk_not {us : List Usr} {i : Nat} (hi : i < us.length) (k : okAt us i = false) : usersOk us = false := by
  have : usersOk us = (decide (us.length ≤ 32) && (List.range us.length).all (okAt us)) := rfl
  rw [this]
  have : (List.range us.length).all (okAt us) = false := by
    rw [List.all_eq_false]
    exact ⟨i, List.mem_range.2 hi, by simp [k]⟩
  rw [this, Bool.and_false]
theorem usersOk_many {us : List Usr} (h : ¬ us.length ≤ 32) : usersOk us = false := by
  have : usersOk us = (decide (us.length ≤ 32) && (List.range us.length).all (okAt us)) := rfl
  rw [this, decide_eq_false h, Bool.false_and]
theorem box2 (w : World) (n s : ByteArray) (T : TypeId) (w' : World) (h : Below (w.heap.size + 1) (w.alloc (.cells #[.string n, .string s] T)) w') :
    w'.cell? ⟨w.heap.size, 0, none⟩ = some (.string n) ∧ w'.cell? ⟨w.heap.size, 1, none⟩ = some (.string s) ∧ Below w.heap.size w w' ∧ w.heap.size + 1 ≤ w'.heap.size := by
  refine ⟨(h.cell (p := ⟨w.heap.size, 0, none⟩) (Nat.lt_succ_self _)).trans ?_, (h.cell (p := ⟨w.heap.size, 1, none⟩) (Nat.lt_succ_self _)).trans ?_, (below_boxes w _).trans (h.mono (by omega)), by have := h.size; rw [size_alloc] at this; exact this⟩
  · rw [World.cell?_alloc_new]; rfl
  · rw [World.cell?_alloc_new]; rfl
theorem made_after {w w' : World} (h : Below w.heap.size w w') (o : Obj) : MadeAns true w (.returned (.pointer (some ⟨w'.heap.size, 0, none⟩))) (w'.alloc o) :=
  ⟨h.alloc h.size _, .inl ⟨rfl, _, rfl, h.size, by rw [size_alloc]; omega⟩⟩

set_option maxRecDepth 100000 in
set_option maxHeartbeats 4000000 in
theorem server_any {B : Nat} {v : Value} {us : List Usr} (seed : Int) (w : World) (h : UsAt B w v us) (hB : B ≤ w.heap.size) :
    Calls Tryz.prog 19 #[v, .int .i64 seed] w (MadeAns (usersOk us) w) := by
  obtain ⟨p, c, rfl, hc, hu⟩ := h.form
  have hlen : us.length ≤ 9223372036854775807 := by have := h.1; omega
  have HU := Lib.hid hu
  have HS := Lib.hid h
  clear hu h
  obtain ⟨n, hn⟩ : ∃ n, us.length = n := ⟨_, rfl⟩
  have Hn := Lib.hid hn
  by_cases h32 : n ≤ 32
  · obtain ⟨R, hR⟩ : ∃ R, usersOk us = R := ⟨_, rfl⟩
    have HA : Hid ((∀ i, i < n → okAt us i = true) → R = true) := fun k => by rw [← hR]; exact usersOk_all (by omega) (by rw [hn]; exact k)
    have HN : Hid (∀ i, i < n → okAt us i = false → R = false) := fun i hi k => by rw [← hR]; exact usersOk_not (by omega) k
    rw [hR]
    rw [hn] at hc hlen HS ⊢
    clear hn hR
    go_enter Tryz.func19, Tryz.ntmps19
    go_wp2
    go_loopw [13] (fun i wr => ∃ (j : Nat), i = .int .i64 j ∧ j ≤ n ∧ Hid (∀ i, i < j → okAt us i = true) ∧ Hid (Below w.heap.size w wr)) (fun i _ => n - (intOf i).toNat)
    case atStart => exact ⟨0, rfl, Nat.zero_le _, fun i h => by omega, Below.refl _ _⟩
    case round =>
      obtain ⟨j, rfl, hj, HQ, HG⟩ := hrel
      have hzw := HG.out.size
      by_cases hlt : j < n
      · rcases HU.out.below (HG.out.mono hB) with h0 | ⟨b, off, rfl, hbB, hel⟩
        · rw [← Hn.out, h0] at hlt; exact absurd hlt (by simp)
        obtain ⟨t, ht⟩ : ∃ t, us[j]? = some t := ⟨_, List.getElem?_eq_getElem (by rw [Hn.out]; exact hlt)⟩
        obtain ⟨tn, ts⟩ := t
        obtain ⟨e0, e1⟩ := hel j (tn, ts) ht
        have hi0 : (0 : Int) ≤ (j : Int) := by omega
        have hi1 : (j : Int) < (n : Int) := by omega
        have hcj : (j : Int) ≤ (c : Int) := by omega
        have HE := Lib.hid (okAt_eq ht)
        have HTk := Lib.hid (show (us.take j).length = j by rw [List.length_take, Hn.out]; omega)
        have HUt := Lib.hid ((HU.out.below (HG.out.mono hB)).take j)
        clear hel ht
        go_wp2_with (fail)
        obtain ⟨X, hX⟩ : ∃ X, (us.take j).any (isNm tn) = X := ⟨_, rfl⟩
        have hC := containsU_any c tn wr.heap.size (wr.alloc (.cells #[.string tn, .string ts] 24)) (HUt.out.below ((below_boxes wr _).mono (by omega))) (by rw [HTk.out]; omega) (by rw [size_alloc]; omega) (box2 wr tn ts _ _ (Below.refl _ _)).1 (by rw [size_alloc]; omega)
        rw [HTk.out, hX] at hC
        have HC := Lib.hid hC
        have HA2 := Lib.hid (fun w => may_any tn 1 w)
        have HB2 := Lib.hid (fun w => may_any ts 0 w)
        have HE2 := HE.out
        rw [hX] at HE2
        obtain ⟨Y, hY⟩ : ∃ Y, mayT tn 1 = Y := ⟨_, rfl⟩
        obtain ⟨Z, hZ⟩ : ∃ Z, mayT ts 0 = Z := ⟨_, rfl⟩
        rw [hY] at HA2 HE2
        rw [hZ] at HB2 HE2
        have HE3 := Lib.hid HE2
        clear hX hY hZ hC HE2 HE HTk HUt
        refine HC.out.mono ?_
        rintro e w2 ⟨rfl, hb2⟩
        obtain ⟨c0, c1, hb3, hz3⟩ := box2 wr tn ts _ _ (hb2.mono (by rw [size_alloc]; omega))
        have HB3 := Lib.hid (HG.out.trans (hb3.mono hzw))
        clear hb2 hb3 HC
        cases X with
        | true =>
          have HF := Lib.hid (HN.out j hlt (by rw [HE3.out]; rfl))
          go_wp2_with (fail)
          go_ret
          exact made_eq HF.out (made_none HB3.out)
        | false =>
          go_wp2_with (fail)
          refine (HA2.out _).mono ?_
          rintro e w3 ⟨rfl, rfl⟩
          cases Y with
          | false =>
            have HF := Lib.hid (HN.out j hlt (by rw [HE3.out]; rfl))
            go_wp2_with (fail)
            go_ret
            exact made_eq HF.out (made_none HB3.out)
          | true =>
            go_wp2_with (fail)
            refine (HB2.out _).mono ?_
            rintro e w3 ⟨rfl, rfl⟩
            cases Z with
            | false =>
              have HF := Lib.hid (HN.out j hlt (by rw [HE3.out]; rfl))
              go_wp2_with (fail)
              go_ret
              exact made_eq HF.out (made_none HB3.out)
            | true =>
              have HT := Lib.hid (show okAt us j = true by rw [HE3.out]; rfl)
              go_wp2_with (fail)
              go_roundw
              case rel => exact ⟨j + 1, by go_num, by omega, fun i hi => by
                by_cases h : i = j
                · rw [h]; exact HT.out
                · exact HQ.out i (by omega), HB3.out⟩
              case measure => simp [intOf]; omega
      · obtain rfl : j = n := by omega
        have HF := Lib.hid (HA.out HQ.out)
        have HC := Lib.hid (cloneU_any wr (HS.out.below (HG.out.mono hB)) (by omega))
        go_wp2_with (fail)
        refine HC.out.mono ?_
        rintro e w2 ⟨⟨p2, n2, c2, rfl⟩, hb2⟩
        go_wp2_with (fail)
        go_ret
        have hb3 := HG.out.trans (hb2.mono hzw)
        exact made_eq HF.out (made_after hb3 _)
  · have HF := Lib.hid (usersOk_many (us := us) (by omega))
    rw [HF.out]
    rw [hn] at hc hlen ⊢
    have h33 : (32 : Int) < (n : Int) := by omega
    go_enter Tryz.func19, Tryz.ntmps19
    go_wp2
    go_ret
    exact made_none (Below.refl _ _)
end Go.Proofs.YtannnhopgdlapaaGreatDoor.Uc
