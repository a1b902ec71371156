/-
  The reference's New of a connection. Condition: the users lie so.
-/
import Derived.Test.YtannnhopgdlapaaGreatDoorG8
namespace Go.Proofs.YtannnhopgdlapaaGreatDoor.Uc
open Go Go.RowKit Go.Proofs.Nu

theorem zsize102 : Tryz.zeroCells84.size = 165 := by kernel_rfl
theorem y14 : Tryz.zeroCells84[14]? = some (.pointer none) := by kernel_rfl
theorem y15 : Tryz.zeroCells84[15]? = some (.pointer none) := by kernel_rfl
set_option maxRecDepth 100000 in
set_option maxHeartbeats 8000000 in
theorem rconnNew_any {B : Nat} (c : Cfg) (uv : Value) (w : World) (hu : UsAt B w uv c.users) (hB : B ≤ w.heap.size) :
    Calls Tryz.prog 6 #[.agg (cfgCells c uv)] w (MadeAns c.ok w) := by
  obtain ⟨id, host, server, guarded, users, seed, mech, ⟨un, us⟩, mf, cm, idl, win⟩ := c
  have hbase := base_eq ⟨id, host, server, guarded, users, seed, mech, ⟨un, us⟩, mf, cm, idl, win⟩
  have hok : (Cfg.mk id host server guarded users seed mech (un, us) mf cm idl win).ok = ((Cfg.mk id host server guarded users seed mech (un, us) mf cm idl win).base && (!guarded || (if server then usersOk users else clientOk mech (un, us)))) := rfl
  dsimp only [cfgCells] at hbase hu ⊢
  obtain ⟨p, n, c, huv⟩ : ∃ p n c, uv = .slice p n c := by obtain ⟨p, c, h, _⟩ := hu.form; exact ⟨p, _, c, h⟩
  subst huv
  have HU := Lib.hid hu
  clear hu
  obtain ⟨bs, hbs⟩ : ∃ bs, (Cfg.mk id host server guarded users seed mech (un, us) mf cm idl win).base = bs := ⟨_, rfl⟩
  obtain ⟨R, hR⟩ : ∃ R, (Cfg.mk id host server guarded users seed mech (un, us) mf cm idl win).ok = R := ⟨_, rfl⟩
  rw [hbs] at hok hbase
  rw [hR] at hok ⊢
  have HOK := Lib.hid hok
  clear hbs hR hok
  have H1 := Lib.hid (fun w => rtext_all id 1 64 w (by omega))
  have H2 := Lib.hid (fun w => rtext_all host 0 64 w (by omega))
  obtain ⟨X1, hX1⟩ : ∃ X, txtT id 1 64 = X := ⟨_, rfl⟩
  obtain ⟨X2, hX2⟩ : ∃ X, txtT host 0 64 = X := ⟨_, rfl⟩
  rw [hX1] at H1 hbase
  rw [hX2] at H2 hbase
  have HBS := Lib.hid hbase
  clear hX1 hX2 hbase
  have HBX : Hid (∀ w', Below (w.heap.size + 1) (w.alloc (.cells #[.string id, .string host, .bool server, .bool guarded, .slice p n c, .int .i64 seed, .string mech, .string un, .string us, .int .i64 mf, .int .i64 cm, .int .i64 idl, .int .i64 win] 26)) w' → CfgAt w' w.heap.size id host server guarded (.slice p n c) seed mech un us mf cm idl win ∧ Below w.heap.size w w' ∧ w.heap.size + 1 ≤ w'.heap.size) := fun w' h => cfg_new w _ _ _ _ _ _ _ _ _ _ _ _ _ _ w' h
  go_enter Tryz.func6, Tryz.ntmps6
  go_wp2_with (fail)
  obtain ⟨W1, hW1⟩ : ∃ W1, w.alloc (.cells #[.string id, .string host, .bool server, .bool guarded, .slice p n c, .int .i64 seed, .string mech, .string un, .string us, .int .i64 mf, .int .i64 cm, .int .i64 idl, .int .i64 win] 26) = W1 := ⟨_, rfl⟩
  rw [hW1] at HBX ⊢
  clear hW1
  obtain ⟨⟨c0, c1, c2, c3, c4, c5, c6, c7, c8, c9, c10, c11, c12⟩, hb3, hz3⟩ := HBX.out W1 (Below.refl _ _)
  have b3 := Lib.hid (Below.refl (w.heap.size + 1) W1)
  refine (H1.out W1).mono ?_
  rintro e w3 ⟨rfl, hw⟩
  rw [hw]
  clear hw w3
  cases X1 with
  | false =>
    have HF := Lib.hid (show R = false by
      rw [HOK.out]
      cases bs with
      | false => rfl
      | true => have := (HBS.out.1 rfl).1; cases this)
    clear HBS HOK H1 H2
    go_wp2
    go_ret
    exact made_eq HF.out (made_none hb3)
  | true =>
    go_wp2_with (fail)
    refine (H2.out _).mono ?_
    rintro e w4 ⟨rfl, hw⟩
    rw [hw]
    clear hw w4
    cases X2 with
    | false =>
      have HF := Lib.hid (show R = false by
        rw [HOK.out]
        cases bs with
        | false => rfl
        | true => have := (HBS.out.1 rfl).2.1; cases this)
      clear HBS HOK H1 H2
      go_wp2
      go_ret
      exact made_eq HF.out (made_none hb3)
    | true =>
      by_cases hnum : numsOk mf cm idl win
      · obtain rfl : bs = true := HBS.out.2 (by simpa using hnum)
        obtain ⟨m1, m2, m3, m4, m5, m6, m7, m8⟩ := hnum
        clear HBS H1 H2
        have HST : Hid (∀ w, Calls Tryz.prog 22 #[.int .i64 mf] w fun r w' => (∃ b, r = .returned (.pointer (some ⟨b, 0, none⟩))) ∧ Below w.heap.size w w') := fun w => (rstream_any mf w).mono fun r w' h => by
          have hm : mostT mf = true := (mostT_iff mf).2 ⟨m1, m2⟩
          unfold MadeAns at h
          rw [hm] at h
          obtain ⟨h1, ⟨_, b, h2, _⟩ | ⟨h2, _⟩⟩ := h
          · exact ⟨⟨b, h2⟩, h1⟩
          · cases h2
        have HALL : Hid (∀ w', Below W1.heap.size W1 w' → (Below W1.heap.size W1 w' ∧ w'.cell? ⟨w.heap.size, 0, none⟩ = some (.string id) ∧ w'.cell? ⟨w.heap.size, 1, none⟩ = some (.string host) ∧ w'.cell? ⟨w.heap.size, 2, none⟩ = some (.bool server) ∧ w'.cell? ⟨w.heap.size, 3, none⟩ = some (.bool guarded) ∧ w'.cell? ⟨w.heap.size, 4, none⟩ = some (.slice p n c) ∧ w'.cell? ⟨w.heap.size, 5, none⟩ = some (.int .i64 seed) ∧ w'.cell? ⟨w.heap.size, 6, none⟩ = some (.string mech) ∧ w'.cell? ⟨w.heap.size, 7, none⟩ = some (.string un) ∧ w'.cell? ⟨w.heap.size, 8, none⟩ = some (.string us) ∧ w'.cell? ⟨w.heap.size, 9, none⟩ = some (.int .i64 mf) ∧ w'.cell? ⟨w.heap.size, 10, none⟩ = some (.int .i64 cm) ∧ w'.cell? ⟨w.heap.size, 11, none⟩ = some (.int .i64 idl) ∧ w'.cell? ⟨w.heap.size, 12, none⟩ = some (.int .i64 win))) := fun w' h => by
          obtain ⟨hc, _⟩ := HBX.out w' (b3.out.trans (h.mono hz3))
          exact ⟨h, hc⟩
        go_wp2
        clear m1 m2 m3 m4 m5 m6 m7 m8
        go_region_held3 (fun w' => Below W1.heap.size W1 w' ∧ w'.cell? ⟨w.heap.size, 0, none⟩ = some (.string id) ∧ w'.cell? ⟨w.heap.size, 1, none⟩ = some (.string host) ∧ w'.cell? ⟨w.heap.size, 2, none⟩ = some (.bool server) ∧ w'.cell? ⟨w.heap.size, 3, none⟩ = some (.bool guarded) ∧ w'.cell? ⟨w.heap.size, 4, none⟩ = some (.slice p n c) ∧ w'.cell? ⟨w.heap.size, 5, none⟩ = some (.int .i64 seed) ∧ w'.cell? ⟨w.heap.size, 6, none⟩ = some (.string mech) ∧ w'.cell? ⟨w.heap.size, 7, none⟩ = some (.string un) ∧ w'.cell? ⟨w.heap.size, 8, none⟩ = some (.string us) ∧ w'.cell? ⟨w.heap.size, 9, none⟩ = some (.int .i64 mf) ∧ w'.cell? ⟨w.heap.size, 10, none⟩ = some (.int .i64 cm) ∧ w'.cell? ⟨w.heap.size, 11, none⟩ = some (.int .i64 idl) ∧ w'.cell? ⟨w.heap.size, 12, none⟩ = some (.int .i64 win))
          (first
            | assumption
            | (refine HALL.out _ ?_; repeat (first | exact Below.refl _ _ | refine bd ?_ | refine bt ?_ hb4 | refine ba ?_)))
          ((go_at_call 22; refine (HST.out _).mono ?_; rintro r w4 ⟨⟨sb, rfl⟩, hb4⟩))
        generalize hW5 : World.alloc _ _ = W5
        have hx : w4.heap.size = w4.heap.size := rfl
        have g4 := Lib.hid (show XAt W5 (w4.heap.size) 4 (.slice p n c) from obj_at hW5 hx (by simp [zsize102]))
        have g14 := Lib.hid (show XAt W5 (w4.heap.size) 14 (.pointer none) from obj_at hW5 hx (by
          repeat (rw [Array.getElem?_setIfInBounds_ne (by decide)])
          exact y14))
        have g15 := Lib.hid (show XAt W5 (w4.heap.size) 15 (.pointer none) from obj_at hW5 hx (by
          repeat (rw [Array.getElem?_setIfInBounds_ne (by decide)])
          exact y15))
        have b5 := Lib.hid (show Below (w.heap.size + 1) W1 W5 from b3.out.trans ((show Below W1.heap.size W1 W5 by
          rw [← hW5]
          exact ba (bt (bd (Below.refl _ _)) hb4)).mono hz3))
        have hz5 := (HBX.out W5 b5.out).2.2
        have x0 : w.heap.size + 1 ≤ w4.heap.size := by have := hb4.size; have : W1.drew.heap.size = W1.heap.size := rfl; omega
        have x1 : w4.heap.size < W5.heap.size := by rw [← hW5]; simp only [size_alloc]; omega
        clear hW5 hx hb4
        obtain ⟨xb, hxb⟩ : ∃ xb, w4.heap.size = xb := ⟨_, rfl⟩
        rw [hxb] at g4 g14 g15 x0 x1 ⊢
        clear hxb
        have HMB : Hid (∀ w6, Below W5.heap.size W5 w6 → Below (w.heap.size + 1) W1 w6 ∧ XAt w6 xb 4 (.slice p n c) ∧ XAt w6 xb 14 (.pointer none) ∧ XAt w6 xb 15 (.pointer none) ∧ xb < w6.heap.size) := fun w6 h => ⟨b5.out.trans (h.mono hz5), g4.out.below h x1, g14.out.below h x1, g15.out.below h x1, by have := h.size; omega⟩
        obtain ⟨⟨c0, c1, c2, c3, c4, c5, c6, c7, c8, c9, c10, c11, c12⟩, hb5, _⟩ := HBX.out W5 b5.out
        have HU5 := Lib.hid (HU.out.below (hb5.mono hB))
        clear g4 g14 g15 b5 hz5 x1 hb5
        obtain ⟨i0, hi, hz0, hz1, hz2⟩ := info_parts infoU
        rcases HU5.out with ⟨hsz, ⟨hu0, hv⟩ | ⟨a, cc, hv, hlc, hcm, hua⟩⟩
        · cases hv
          obtain ⟨b6, g4', g14', g15', x2⟩ := HMB.out W5 (Below.refl _ _)
          replace b6 := Lib.hid b6
          replace g4' := Lib.hid g4'
          replace g14' := Lib.hid g14'
          replace g15' := Lib.hid g15'
          clear HMB HU5 c0 c1 c2 c3 c4 c5 c6 c7 c8 c9 c10 c11 c12
          obtain ⟨⟨c0, c1, c2, c3, c4, c5, c6, c7, c8, c9, c10, c11, c12⟩, hb6, hz6⟩ := HBX.out W5 b6.out
          obtain ⟨d4, e4⟩ := g4'.out
          cases guarded with
          | false =>
            have HF := Lib.hid (show R = true from HOK.out)
            go_wp2_with (at_builtin; refine wpList_append_own_none _ rfl (.const (.slice none 0 0)) _ _ rfl W5.heap.size 24 i0 2 Tryz.underlying22 hi (.slice none 0 0) 0 [] rfl (World.ownsRow_nil _ _ _ _) rfl ?_)
            go_ret
            exact made_eq HF.out ⟨hb6.setCell (Nat.le_of_succ_le x0) _, .inl ⟨rfl, xb, rfl, by omega, Nat.lt_of_lt_of_le x2 (size_set _ _ _)⟩⟩
          | true =>
            cases server with
            | true =>
              have HF := Lib.hid (show R = usersOk users from HOK.out)
              go_wp2_with (at_builtin; refine wpList_append_own_none _ rfl (.const (.slice none 0 0)) _ _ rfl W5.heap.size 24 i0 2 Tryz.underlying22 hi (.slice none 0 0) 0 [] rfl (World.ownsRow_nil _ _ _ _) rfl ?_)
              generalize hW7 : World.setCell _ _ _ = W7
              have b7 := Lib.hid (show Below (w.heap.size + 1) W1 W7 from hW7 ▸ b6.out.setCell x0 _)
              have g7 := Lib.hid (show XAt W7 xb 14 (.pointer none) from hW7 ▸ g14'.out.set (by decide))
              have x7 : xb < W7.heap.size := Nat.lt_of_lt_of_le x2 (hW7 ▸ size_set _ _ _)
              obtain ⟨_, hb7, hz7⟩ := HBX.out W7 b7.out
              refine (rserver_any seed W7 (HU.out.below (hb7.mono hB)) (by omega)).mono ?_
              rintro e w8 ⟨hb8, hh⟩
              have b8 := Lib.hid (b7.out.trans (hb8.mono hz7))
              have g8 := Lib.hid (g7.out.below hb8 x7)
              have x8 : xb < w8.heap.size := by have := hb8.size; omega
              clear c0 c1 c2 c3 c4 c5 c6 c7 c8 c9 c10 c11 c12 hW7 hb7 hz7 hb8 d4 e4 g4' g14' g15' b6 hb6 hz6 hb3 hz3
              obtain ⟨⟨c0, c1, c2, c3, c4, c5, c6, c7, c8, c9, c10, c11, c12⟩, hb8, hz8⟩ := HBX.out w8 b8.out
              obtain ⟨d14, e14⟩ := g8.out
              rcases hh with ⟨hk, sv, rfl, _, _⟩ | ⟨hk, rfl⟩
              · have HK := Lib.hid (HF.out.trans hk)
                clear hk
                go_wp2_with (fail)
                go_ret
                exact made_eq HK.out ⟨hb8.setCell (Nat.le_of_succ_le x0) _, .inl ⟨rfl, xb, rfl, by omega, Nat.lt_of_lt_of_le x8 (size_set _ _ _)⟩⟩
              · have HK := Lib.hid (HF.out.trans hk)
                clear hk
                go_wp2_with (fail)
                go_ret
                exact made_eq HK.out (made_none (hb8.setCell (Nat.le_of_succ_le x0) _))
            | false =>
              have HF := Lib.hid (show R = clientOk mech (un, us) from HOK.out)
              go_wp2_with (at_builtin; refine wpList_append_own_none _ rfl (.const (.slice none 0 0)) _ _ rfl W5.heap.size 24 i0 2 Tryz.underlying22 hi (.slice none 0 0) 0 [] rfl (World.ownsRow_nil _ _ _ _) rfl ?_)
              generalize hW7 : World.setCell _ _ _ = W7
              have b7 := Lib.hid (show Below (w.heap.size + 1) W1 W7 from hW7 ▸ b6.out.setCell x0 _)
              have g7 := Lib.hid (show XAt W7 xb 15 (.pointer none) from hW7 ▸ g15'.out.set (by decide))
              have x7 : xb < W7.heap.size := Nat.lt_of_lt_of_le x2 (hW7 ▸ size_set _ _ _)
              obtain ⟨_, hb7, hz7⟩ := HBX.out W7 b7.out
              refine (rclient_any mech un us W7).mono ?_
              rintro e w8 ⟨hb8, hh⟩
              have b8 := Lib.hid (b7.out.trans (hb8.mono hz7))
              have g8 := Lib.hid (g7.out.below hb8 x7)
              have x8 : xb < w8.heap.size := by have := hb8.size; omega
              clear c0 c1 c2 c3 c4 c5 c6 c7 c8 c9 c10 c11 c12 hW7 hb7 hz7 hb8 d4 e4 g4' g14' g15' b6 hb6 hz6 hb3 hz3
              obtain ⟨⟨c0, c1, c2, c3, c4, c5, c6, c7, c8, c9, c10, c11, c12⟩, hb8, hz8⟩ := HBX.out w8 b8.out
              obtain ⟨d14, e14⟩ := g8.out
              rcases hh with ⟨hk, sv, rfl, _, _⟩ | ⟨hk, rfl⟩
              · have HK := Lib.hid (HF.out.trans hk)
                clear hk
                go_wp2_with (fail)
                go_ret
                exact made_eq HK.out ⟨hb8.setCell (Nat.le_of_succ_le x0) _, .inl ⟨rfl, xb, rfl, by omega, Nat.lt_of_lt_of_le x8 (size_set _ _ _)⟩⟩
              · have HK := Lib.hid (HF.out.trans hk)
                clear hk
                go_wp2_with (fail)
                go_ret
                exact made_eq HK.out (made_none (hb8.setCell (Nat.le_of_succ_le x0) _))
        · obtain rfl : p = some a := by injection hv
          obtain rfl : n = users.length := by injection hv
          have HC := Lib.hid hua.cells
          have hn1 : 0 + users.length ≤ maxLen := by omega
          have hn2 : (0 + users.length) * 32 ≤ 140737488355328 := by omega
          clear hua hcm hlc hsz hv
          go_wp2_with (at_builtin; refine wpList_append_own _ rfl (.const (.slice none 0 0)) _ _ rfl W5.heap.size 24 i0 _ 2 32 Tryz.underlying22 hi hz0 hz1 hz2 rfl (by omega) (.slice none 0 0) 0 [] rfl (World.ownsRow_nil _ _ _ _) a users.length c (cellsU users) rfl (cellsU_length users) HC.out cellsU_one hn1 hn2 (Nat.le_refl _) ?_)
          intro v' w6 hown hgrow _
          obtain ⟨p6, n6, cc6, rfl⟩ := own_slice hown
          obtain ⟨b6, g4', g14', g15', x2⟩ := HMB.out w6 ((Below.refl _ W5).grown hgrow (Nat.le_refl _) (by intro k hk; cases hk))
          replace b6 := Lib.hid b6
          replace g4' := Lib.hid g4'
          replace g14' := Lib.hid g14'
          replace g15' := Lib.hid g15'
          clear HMB HU5 hown hgrow c0 c1 c2 c3 c4 c5 c6 c7 c8 c9 c10 c11 c12
          obtain ⟨⟨c0, c1, c2, c3, c4, c5, c6, c7, c8, c9, c10, c11, c12⟩, hb6, hz6⟩ := HBX.out w6 b6.out
          obtain ⟨d4, e4⟩ := g4'.out
          cases guarded with
          | false =>
            have HF := Lib.hid (show R = true from HOK.out)
            go_wp2_with (fail)
            go_ret
            exact made_eq HF.out ⟨hb6.setCell (Nat.le_of_succ_le x0) _, .inl ⟨rfl, xb, rfl, by omega, Nat.lt_of_lt_of_le x2 (size_set _ _ _)⟩⟩
          | true =>
            cases server with
            | true =>
              have HF := Lib.hid (show R = usersOk users from HOK.out)
              go_wp2_with (fail)
              generalize hW7 : World.setCell _ _ _ = W7
              have b7 := Lib.hid (show Below (w.heap.size + 1) W1 W7 from hW7 ▸ b6.out.setCell x0 _)
              have g7 := Lib.hid (show XAt W7 xb 14 (.pointer none) from hW7 ▸ g14'.out.set (by decide))
              have x7 : xb < W7.heap.size := Nat.lt_of_lt_of_le x2 (hW7 ▸ size_set _ _ _)
              obtain ⟨_, hb7, hz7⟩ := HBX.out W7 b7.out
              refine (rserver_any seed W7 (HU.out.below (hb7.mono hB)) (by omega)).mono ?_
              rintro e w8 ⟨hb8, hh⟩
              have b8 := Lib.hid (b7.out.trans (hb8.mono hz7))
              have g8 := Lib.hid (g7.out.below hb8 x7)
              have x8 : xb < w8.heap.size := by have := hb8.size; omega
              clear c0 c1 c2 c3 c4 c5 c6 c7 c8 c9 c10 c11 c12 hW7 hb7 hz7 hb8 d4 e4 g4' g14' g15' b6 hb6 hz6 hb3 hz3
              obtain ⟨⟨c0, c1, c2, c3, c4, c5, c6, c7, c8, c9, c10, c11, c12⟩, hb8, hz8⟩ := HBX.out w8 b8.out
              obtain ⟨d14, e14⟩ := g8.out
              rcases hh with ⟨hk, sv, rfl, _, _⟩ | ⟨hk, rfl⟩
              · have HK := Lib.hid (HF.out.trans hk)
                clear hk
                go_wp2_with (fail)
                go_ret
                exact made_eq HK.out ⟨hb8.setCell (Nat.le_of_succ_le x0) _, .inl ⟨rfl, xb, rfl, by omega, Nat.lt_of_lt_of_le x8 (size_set _ _ _)⟩⟩
              · have HK := Lib.hid (HF.out.trans hk)
                clear hk
                go_wp2_with (fail)
                go_ret
                exact made_eq HK.out (made_none (hb8.setCell (Nat.le_of_succ_le x0) _))
            | false =>
              have HF := Lib.hid (show R = clientOk mech (un, us) from HOK.out)
              go_wp2_with (fail)
              generalize hW7 : World.setCell _ _ _ = W7
              have b7 := Lib.hid (show Below (w.heap.size + 1) W1 W7 from hW7 ▸ b6.out.setCell x0 _)
              have g7 := Lib.hid (show XAt W7 xb 15 (.pointer none) from hW7 ▸ g15'.out.set (by decide))
              have x7 : xb < W7.heap.size := Nat.lt_of_lt_of_le x2 (hW7 ▸ size_set _ _ _)
              obtain ⟨_, hb7, hz7⟩ := HBX.out W7 b7.out
              refine (rclient_any mech un us W7).mono ?_
              rintro e w8 ⟨hb8, hh⟩
              have b8 := Lib.hid (b7.out.trans (hb8.mono hz7))
              have g8 := Lib.hid (g7.out.below hb8 x7)
              have x8 : xb < w8.heap.size := by have := hb8.size; omega
              clear c0 c1 c2 c3 c4 c5 c6 c7 c8 c9 c10 c11 c12 hW7 hb7 hz7 hb8 d4 e4 g4' g14' g15' b6 hb6 hz6 hb3 hz3
              obtain ⟨⟨c0, c1, c2, c3, c4, c5, c6, c7, c8, c9, c10, c11, c12⟩, hb8, hz8⟩ := HBX.out w8 b8.out
              obtain ⟨d14, e14⟩ := g8.out
              rcases hh with ⟨hk, sv, rfl, _, _⟩ | ⟨hk, rfl⟩
              · have HK := Lib.hid (HF.out.trans hk)
                clear hk
                go_wp2_with (fail)
                go_ret
                exact made_eq HK.out ⟨hb8.setCell (Nat.le_of_succ_le x0) _, .inl ⟨rfl, xb, rfl, by omega, Nat.lt_of_lt_of_le x8 (size_set _ _ _)⟩⟩
              · have HK := Lib.hid (HF.out.trans hk)
                clear hk
                go_wp2_with (fail)
                go_ret
                exact made_eq HK.out (made_none (hb8.setCell (Nat.le_of_succ_le x0) _))
      · obtain rfl : bs = false := by
          cases bs with
          | false => rfl
          | true => exact absurd (HBS.out.1 rfl).2.2 hnum
        have HF := Lib.hid (show R = false from HOK.out)
        have HB3 := Lib.hid hb3
        unfold numsOk at hnum
        clear HBS HOK H1 H2 HBX hb3
        go_wp2
        all_goals first
          | (exfalso; omega)
          | (exfalso; simp only [Bool.not_eq_false', decide_eq_true_eq] at *; omega)
          | (go_ret; exact made_eq HF.out (made_none HB3.out))
end Go.Proofs.YtannnhopgdlapaaGreatDoor.Uc
