/-
  The reference's NewServer: users judged by definition, laid one by one. No condition but that the users lie so.
-/
import Derived.Test.YtannnhopgdlapaaGreatDoorG6
import Derived.Deep.RegionHeld3
namespace Go.Proofs.YtannnhopgdlapaaGreatDoor.Uc
open Go Go.RowKit Go.Proofs.Nu

theorem any_none {us : List Usr} {j : Nat} {tn : ByteArray} (h : ∀ i u, i < j → us[i]? = some u → isNm tn u = false) : (us.take j).any (isNm tn) = false := by
  rw [List.any_eq_false]
  intro x hx
  obtain ⟨i, hi⟩ := List.getElem?_of_mem hx
  rw [List.getElem?_take] at hi
  split at hi
  · rename_i hlt; rw [h i x hlt hi]; decide
  · cases hi
theorem any_some {us : List Usr} {i j : Nat} {tn : ByteArray} {u : Usr} (hi : i < j) (hu : us[i]? = some u) (h : isNm tn u = true) : (us.take j).any (isNm tn) = true :=
  List.any_eq_true.2 ⟨u, List.mem_of_getElem? (i := i) (by rw [List.getElem?_take, if_pos hi]; exact hu), h⟩
theorem cells2_new (w : World) (n s : ByteArray) (T : TypeId) : ∀ j u, ([.string n, .string s] : List Value)[j]? = some u → (w.alloc (.cells #[.string n, .string s] T)).cell? ((⟨w.heap.size, 0, none⟩ : Addr).add j) = some u := by
  intro j u hu
  rw [Addr.add_lit, Nat.zero_add, World.cell?_alloc_new]
  simpa using hu

set_option maxRecDepth 100000 in
set_option maxHeartbeats 4000000 in
theorem rserver_any {B : Nat} {v : Value} {us : List Usr} (seed : Int) (w : World) (h : UsAt B w v us) (hB : B ≤ w.heap.size) :
    Calls Tryz.prog 23 #[v, .int .i64 seed] w (MadeAns (usersOk us) w) := by
  obtain ⟨p, c, rfl, hc, hu⟩ := h.form
  have hlen : us.length ≤ 9223372036854775807 := by have := h.1; omega
  have HU := Lib.hid hu
  clear hu h
  obtain ⟨n, hn⟩ : ∃ n, us.length = n := ⟨_, rfl⟩
  have Hn := Lib.hid hn
  by_cases h32 : n ≤ 32
  · obtain ⟨R, hR⟩ : ∃ R, usersOk us = R := ⟨_, rfl⟩
    have HA : Hid ((∀ i, i < n → okAt us i = true) → R = true) := fun k => by rw [← hR]; exact usersOk_all (by omega) (by rw [hn]; exact k)
    have HN : Hid (∀ i, i < n → okAt us i = false → R = false) := fun i hi k => by rw [← hR]; exact usersOk_not (by omega) k
    rw [hR]
    rw [hn] at hc hlen ⊢
    clear hn hR
    go_enter Tryz.func23, Tryz.ntmps23
    go_wp2
    go_loopw [5] (fun i wr => ∃ (j : Nat), i = .int .i64 j ∧ j ≤ n ∧ Hid (∀ i, i < j → okAt us i = true) ∧ Hid (Below w.heap.size w wr)) (fun i _ => n - (intOf i).toNat)
    case atStart => exact ⟨0, rfl, Nat.zero_le _, fun i h => by omega, Below.refl _ _⟩
    case round =>
      obtain ⟨j, rfl, hj, HQ, HG⟩ := hrel
      have hzw := HG.out.size
      by_cases hlt : j < n
      · rcases HU.out.below (HG.out.mono hB) with h0 | ⟨b, off, rfl, hbB, hel⟩
        · rw [← Hn.out, h0] at hlt; exact absurd hlt (by simp)
        obtain ⟨t, ht⟩ : ∃ t, us[j]? = some t := ⟨_, List.getElem?_eq_getElem (by rw [Hn.out]; exact hlt)⟩
        obtain ⟨tn, ts⟩ := t
        obtain ⟨e0, e1⟩ := hel j (tn, ts) ht
        have HEL := Lib.hid hel
        have hi0 : (0 : Int) ≤ (j : Int) := by omega
        have hi1 : (j : Int) < (n : Int) := by omega
        have HE := okAt_eq ht
        have HJ := Lib.hid ht
        have HA2 := Lib.hid (fun w => rname_any tn 1 w)
        have HB2 := Lib.hid (fun w => rname_any ts 0 w)
        obtain ⟨Y, hY⟩ : ∃ Y, mayT tn 1 = Y := ⟨_, rfl⟩
        obtain ⟨Z, hZ⟩ : ∃ Z, mayT ts 0 = Z := ⟨_, rfl⟩
        rw [hY] at HA2 HE
        rw [hZ] at HB2 HE
        have HE3 := Lib.hid HE
        clear hY hZ HE hel ht
        go_wp2_with (fail)
        refine (HA2.out _).mono ?_
        rintro e w3 ⟨rfl, rfl⟩
        go_wp2_with (fail)
        refine (HB2.out _).mono ?_
        rintro e w3 ⟨rfl, rfl⟩
        by_cases hYZ : (Y && Z) = false
        · have HF := Lib.hid (HN.out j hlt (by rw [HE3.out, hYZ, Bool.and_false]))
          clear HE3
          cases Y <;> cases Z
          all_goals first
            | (exfalso; revert hYZ; decide)
            | (go_wp2_with (fail)
               go_ret
               exact made_eq HF.out (made_none HG.out))
        · obtain rfl : Y = true := by revert hYZ; cases Y <;> simp
          obtain rfl : Z = true := by revert hYZ; cases Z <;> simp
          clear hYZ e0 e1
          go_wp2
          go_loopw [8] (fun i wq => ∃ (k : Nat), i = .int .i64 k ∧ k ≤ j ∧ Hid (∀ i u, i < k → us[i]? = some u → isNm tn u = false) ∧ Hid (Below w.heap.size w wq)) (fun i _ => j - (intOf i).toNat)
          case atStart => exact ⟨0, rfl, Nat.zero_le _, fun i u h => by omega, HG.out⟩
          case round =>
            obtain ⟨k, rfl, hk, HK, HG2⟩ := hrel
            have hzw2 := HG2.out.size
            by_cases hkt : k < j
            · obtain ⟨t, ht⟩ : ∃ t, us[k]? = some t := ⟨_, List.getElem?_eq_getElem (by rw [Hn.out]; omega)⟩
              obtain ⟨kn, ks⟩ := t
              have HALL : Hid (∀ w', Below w.heap.size w w' → (Below w.heap.size w w' ∧ w'.cell? ⟨b, off + k * 2, none⟩ = some (.string kn) ∧ w'.cell? ⟨b, off + j * 2, none⟩ = some (.string tn))) := fun w' h => by
                rcases HU.out.below (h.mono hB) with h0 | ⟨b2, off2, hp, _, hel⟩
                · rw [h0] at ht; cases ht
                · cases hp
                  exact ⟨h, (hel k _ ht).1, (hel j _ HJ.out).1⟩
              obtain ⟨_, f0, g0⟩ := HALL.out _ HG2.out
              have hk0 : (0 : Int) ≤ (k : Int) := by omega
              have hk1 : (k : Int) < (n : Int) := by omega
              have HT := Lib.hid ht
              clear ht
              go_wp2
              go_region_held3 (fun w' => Below w.heap.size w w' ∧ w'.cell? ⟨b, off + k * 2, none⟩ = some (.string kn) ∧ w'.cell? ⟨b, off + j * 2, none⟩ = some (.string tn))
                (first
                  | exact HALL.out _ HG2.out
                  | exact HALL.out _ HG2.out.drew
                  | assumption)
                (fail)
              have HB9 := Lib.hid HG2.out.drew
              go_wp2
              · have hs : (kn.toList == tn.toList) = true := by assumption
                go_ret
                exact made_eq (HN.out j hlt (by rw [HE3.out, any_some hkt HT.out hs]; rfl)) (made_none HB9.out)
              · have hs : ¬ (kn.toList == tn.toList) = true := by first | assumption | (simp_all; done)
                have hs2 : (kn.toList == tn.toList) = false := by simpa using hs
                have HS := Lib.hid (show isNm tn (kn, ks) = false from hs2)
                clear hs2
                clear hs
                go_roundw
                case rel => exact ⟨k + 1, by go_num, by omega, fun i u hi hu => by
                  by_cases h : i = k
                  · rw [h, HT.out] at hu; cases hu; exact HS.out
                  · exact HK.out i u (by omega) hu, HB9.out⟩
                case measure => simp [intOf]; omega
            · obtain rfl : k = j := by omega
              have HT := Lib.hid (show okAt us k = true by rw [HE3.out, any_none HK.out]; rfl)
              go_wp2
              go_roundw
              case rel => exact ⟨k + 1, by go_num, by omega, fun i hi => by
                by_cases h : i = k
                · rw [h]; exact HT.out
                · exact HQ.out i (by omega), HG2.out⟩
              case measure => simp [intOf]; omega
      · obtain rfl : j = n := by omega
        have HF := Lib.hid (HA.out HQ.out)
        have HLEN := Lib.hid (show (j : Int) * 32 ≤ 1024 by omega)
        go_wp2
        go_loopw [9, 10] (fun va i wr => ∃ (k : Nat) (xs : List Value), i = .int .i64 k ∧ k ≤ j ∧ Hid (wr.ownsRow w.heap.size 24 2 va k xs) ∧ Hid (Below w.heap.size w wr)) (fun _ i _ => j - (intOf i).toNat)
        case atStart => exact ⟨0, [], rfl, Nat.zero_le _, World.ownsRow_nil _ _ _ _, HG.out⟩
        case round =>
          clear HG hzw
          obtain ⟨k, xs, rfl, hk, HO, HG⟩ := hrel
          have hzw := HG.out.size
          by_cases hkt : k < j
          · rcases HU.out.below (HG.out.mono hB) with h0 | ⟨b, off, rfl, hbB, hel⟩
            · rw [← Hn.out, h0] at hkt; exact absurd hkt (by simp)
            obtain ⟨t, ht⟩ : ∃ t, us[k]? = some t := ⟨_, List.getElem?_eq_getElem (by rw [Hn.out]; exact hkt)⟩
            obtain ⟨kn, ks⟩ := t
            obtain ⟨e0, e1⟩ := hel k (kn, ks) ht
            have hk0 : (0 : Int) ≤ (k : Int) := by omega
            have hk1 : (k : Int) < (j : Int) := by omega
            obtain ⟨i0, hi, hz0, hz1, hz2⟩ := info_parts infoU
            have hm1 : k + 1 ≤ maxLen := by unfold maxLen; omega
            have hm2 : (k + 1) * 32 ≤ 140737488355328 := by omega
            clear hel ht
            obtain ⟨p', n', c', rfl⟩ := own_slice HO.out
            go_wp2_with (at_builtin; refine wpList_append_own _ rfl _ _ 22 rfl w.heap.size 24 i0 _ 2 32 Tryz.underlying22 hi hz0 hz1 hz2 rfl (by omega) _ k xs rfl (World.ownsRow.alloc HO.out _) ⟨wr.heap.size, 0, none⟩ 1 1 [.string kn, .string ks] rfl rfl (cells2_new wr kn ks _) (by simp [Value.oneCell']) hm1 hm2 (by rw [size_alloc]; omega) ?_)
            intro v' w1 hown hgrow _
            have HB2 := Lib.hid (HG.out.trans (((below_boxes wr (.cells #[.string kn, .string ks] 24)).mono hzw).grown hgrow (by rw [size_alloc]; omega) (by
              intro g hg
              exact (World.ownsRow.lt HO.out g hg).1)))
            have HO2 := Lib.hid hown
            clear hown hgrow
            go_wp2
            go_roundw
            case rel => exact ⟨k + 1, _, by go_num, by omega, HO2.out, HB2.out⟩
            case measure => simp [intOf]; omega
          · obtain rfl : k = j := by omega
            obtain ⟨p', n', c', rfl⟩ := own_slice HO.out
            go_wp2
            go_ret
            exact made_eq HF.out (made_after HG.out _)
  · have HF := Lib.hid (usersOk_many (us := us) (by omega))
    rw [HF.out]
    rw [hn] at hc hlen ⊢
    have h33 : (32 : Int) < (n : Int) := by omega
    go_enter Tryz.func23, Tryz.ntmps23
    go_wp2
    go_ret
    exact made_none (Below.refl _ _)
end Go.Proofs.YtannnhopgdlapaaGreatDoor.Uc
