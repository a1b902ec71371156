/-
  conn.New: nothing, or a fresh connection: what its cells hold. Condition: the tables of unicode/utf8; the users lie so.
-/
import Derived.Test.YtannnhopgdlapaaGreatDoorG8
namespace Go.Proofs.YtannnhopgdlapaaGreatDoor.Uc
open Go Go.RowKit Go.Proofs.Nu

/-- A fresh connection at xb, its map at mb. -/
structure FreshAt (w : World) (xb mb : Nat) : Prop where
  zero : ∀ (j : Nat) (v : Value), 16 ≤ j → j < 159 → j ≠ 21 → Tryz.zeroCells73[j]? = some v → XAt w xb j v
  talks : XAt w xb 159 (.map (some mb))
  none_ : w.heap[mb]? = some (.map #[] 0)
  lx : xb < w.heap.size
  ne : mb ≠ xb
theorem FreshAt.lm {w : World} {xb mb : Nat} (h : FreshAt w xb mb) : mb < w.heap.size := (Array.getElem?_eq_some_iff.1 h.none_).1
theorem FreshAt.below {w w' : World} {xb mb : Nat} (h : FreshAt w xb mb) (hb : Below w.heap.size w w') : FreshAt w' xb mb :=
  ⟨fun j v a b c d => (h.zero j v a b c d).below hb h.lx, h.talks.below hb h.lx, (hb.block mb h.lm).trans h.none_, Nat.lt_of_lt_of_le h.lx hb.size, h.ne⟩
theorem FreshAt.set {w : World} {xb mb i : Nat} {u : Value} (h : FreshAt w xb mb) (hi : i < 16) : FreshAt (w.setCell ⟨xb, i, none⟩ u) xb mb :=
  ⟨fun j v a b c d => (h.zero j v a b c d).set (by omega), h.talks.set (by omega), (Below.heap_setCell w ⟨xb, i, none⟩ u mb h.ne).trans h.none_, Nat.lt_of_lt_of_le h.lx (size_set _ _ _), h.ne⟩
def NewAns (ok : Bool) (w : World) (r : Ending) (w' : World) : Prop := Below w.heap.size w w' ∧ ((ok = true ∧ ∃ b mb, r = .returned (.pointer (some ⟨b, 0, none⟩)) ∧ w.heap.size ≤ b ∧ w.heap.size ≤ mb ∧ FreshAt w' b mb) ∨ (ok = false ∧ r = .returned (.pointer none)))
theorem new_none {w w' : World} (h : Below w.heap.size w w') : NewAns false w (.returned (.pointer none)) w' := ⟨h, .inr ⟨rfl, rfl⟩⟩
theorem new_eq {a b : Bool} (h : a = b) {w w' : World} {r : Ending} (k : NewAns b w r w') : NewAns a w r w' := h ▸ k
theorem new_some {w w' : World} {b mb : Nat} (h : Below w.heap.size w w') (h1 : w.heap.size ≤ b) (h2 : w.heap.size ≤ mb) (hF : FreshAt w' b mb) : NewAns true w (.returned (.pointer (some ⟨b, 0, none⟩))) w' := ⟨h, .inl ⟨rfl, b, mb, rfl, h1, h2, hF⟩⟩
theorem heap_new (w : World) (o : Obj) : (w.alloc o).heap[w.heap.size]? = some o := by
  show (w.heap.push o)[w.heap.size]? = some o
  simp

set_option maxRecDepth 100000 in
set_option maxHeartbeats 8000000 in
theorem connFresh_any {B : Nat} (c : Cfg) (uv : Value) (w : World) (hu : UsAt B w uv c.users) (hT : Tabs w) (hB : B ≤ w.heap.size) :
    Calls Tryz.prog 5 #[.agg (cfgCells c uv)] w (NewAns c.ok w) := by
  obtain ⟨id, host, server, guarded, users, seed, mech, ⟨un, us⟩, mf, cm, idl, win⟩ := c
  have hbase := base_eq ⟨id, host, server, guarded, users, seed, mech, ⟨un, us⟩, mf, cm, idl, win⟩
  have hok : (Cfg.mk id host server guarded users seed mech (un, us) mf cm idl win).ok = ((Cfg.mk id host server guarded users seed mech (un, us) mf cm idl win).base && (!guarded || (if server then usersOk users else clientOk mech (un, us)))) := rfl
  dsimp only [cfgCells] at hbase hu ⊢
  obtain ⟨p, n, c, huv⟩ : ∃ p n c, uv = .slice p n c := by obtain ⟨p, c, h, _⟩ := hu.form; exact ⟨p, _, c, h⟩
  subst huv
  have HU := Lib.hid hu
  have HTb := Lib.hid hT
  clear hu hT
  obtain ⟨bs, hbs⟩ : ∃ bs, (Cfg.mk id host server guarded users seed mech (un, us) mf cm idl win).base = bs := ⟨_, rfl⟩
  obtain ⟨R, hR⟩ : ∃ R, (Cfg.mk id host server guarded users seed mech (un, us) mf cm idl win).ok = R := ⟨_, rfl⟩
  rw [hbs] at hok hbase
  rw [hR] at hok ⊢
  have HOK := Lib.hid hok
  clear hbs hR hok
  have H1 := Lib.hid (fun w h => text_all id 1 64 w h (by omega))
  have H2 := Lib.hid (fun w h => text_all host 0 64 w h (by omega))
  obtain ⟨X1, hX1⟩ : ∃ X, txtT id 1 64 = X := ⟨_, rfl⟩
  obtain ⟨X2, hX2⟩ : ∃ X, txtT host 0 64 = X := ⟨_, rfl⟩
  rw [hX1] at H1 hbase
  rw [hX2] at H2 hbase
  have HBS := Lib.hid hbase
  clear hX1 hX2 hbase
  have HBX : Hid (∀ w', Below (w.heap.size + 1) (w.alloc (.cells #[.string id, .string host, .bool server, .bool guarded, .slice p n c, .int .i64 seed, .string mech, .string un, .string us, .int .i64 mf, .int .i64 cm, .int .i64 idl, .int .i64 win] 26)) w' → CfgAt w' w.heap.size id host server guarded (.slice p n c) seed mech un us mf cm idl win ∧ Below w.heap.size w w' ∧ w.heap.size + 1 ≤ w'.heap.size) := fun w' h => cfg_new w _ _ _ _ _ _ _ _ _ _ _ _ _ _ w' h
  go_enter Tryz.func5, Tryz.ntmps5
  go_wp2_with (fail)
  obtain ⟨W1, hW1⟩ : ∃ W1, w.alloc (.cells #[.string id, .string host, .bool server, .bool guarded, .slice p n c, .int .i64 seed, .string mech, .string un, .string us, .int .i64 mf, .int .i64 cm, .int .i64 idl, .int .i64 win] 26) = W1 := ⟨_, rfl⟩
  rw [hW1] at HBX ⊢
  clear hW1
  obtain ⟨_, hb0, hz0⟩ := HBX.out W1 (Below.refl _ _)
  refine (H1.out W1 (HTb.out.below hb0)).mono ?_
  rintro e w2 ⟨rfl, hb2⟩
  have b2 := Lib.hid (hb2.mono hz0)
  clear hb2 hb0 hz0
  obtain ⟨⟨c0, c1, c2, c3, c4, c5, c6, c7, c8, c9, c10, c11, c12⟩, hb2, hz2⟩ := HBX.out w2 b2.out
  cases X1 with
  | false =>
    have HF := Lib.hid (show R = false by
      rw [HOK.out]
      cases bs with
      | false => rfl
      | true => have := (HBS.out.1 rfl).1; cases this)
    clear HBS HOK
    go_wp2
    go_ret
    exact new_eq HF.out (new_none hb2)
  | true =>
    clear c0 c1 c2 c3 c4 c5 c6 c7 c8 c9 c10 c11 c12
    obtain ⟨⟨c0, c1, c2, c3, c4, c5, c6, c7, c8, c9, c10, c11, c12⟩, _, _⟩ := HBX.out w2 b2.out
    go_wp2_with (fail)
    refine (H2.out w2 (HTb.out.below hb2)).mono ?_
    rintro e w3 ⟨rfl, hb3⟩
    have b3 := Lib.hid (b2.out.trans (hb3.mono hz2))
    clear c0 c1 c2 c3 c4 c5 c6 c7 c8 c9 c10 c11 c12 hb3 hb2 hz2 b2
    obtain ⟨⟨c0, c1, c2, c3, c4, c5, c6, c7, c8, c9, c10, c11, c12⟩, hb3, hz3⟩ := HBX.out w3 b3.out
    cases X2 with
    | false =>
      have HF := Lib.hid (show R = false by
        rw [HOK.out]
        cases bs with
        | false => rfl
        | true => have := (HBS.out.1 rfl).2.1; cases this)
      clear HBS HOK
      go_wp2
      go_ret
      exact new_eq HF.out (new_none hb3)
    | true =>
      by_cases hnum : numsOk mf cm idl win
      · obtain rfl : bs = true := HBS.out.2 (by simpa using hnum)
        obtain ⟨m1, m2, m3, m4, m5, m6, m7, m8⟩ := hnum
        clear HBS H1 H2
        have HST : Hid (∀ w, Calls Tryz.prog 17 #[.int .i64 mf] w fun r w' => (∃ b, r = .returned (.pointer (some ⟨b, 0, none⟩))) ∧ Below w.heap.size w w') := fun w => (stream_any mf w).mono fun r w' h => by
          have hm : mostT mf = true := (mostT_iff mf).2 ⟨m1, m2⟩
          unfold MadeAns at h
          rw [hm] at h
          obtain ⟨h1, ⟨_, b, h2, _⟩ | ⟨h2, _⟩⟩ := h
          · exact ⟨⟨b, h2⟩, h1⟩
          · cases h2
        have HALL : Hid (∀ w', Below w3.heap.size w3 w' → (Below w3.heap.size w3 w' ∧ w'.cell? ⟨w.heap.size, 0, none⟩ = some (.string id) ∧ w'.cell? ⟨w.heap.size, 1, none⟩ = some (.string host) ∧ w'.cell? ⟨w.heap.size, 2, none⟩ = some (.bool server) ∧ w'.cell? ⟨w.heap.size, 3, none⟩ = some (.bool guarded) ∧ w'.cell? ⟨w.heap.size, 4, none⟩ = some (.slice p n c) ∧ w'.cell? ⟨w.heap.size, 5, none⟩ = some (.int .i64 seed) ∧ w'.cell? ⟨w.heap.size, 6, none⟩ = some (.string mech) ∧ w'.cell? ⟨w.heap.size, 7, none⟩ = some (.string un) ∧ w'.cell? ⟨w.heap.size, 8, none⟩ = some (.string us) ∧ w'.cell? ⟨w.heap.size, 9, none⟩ = some (.int .i64 mf) ∧ w'.cell? ⟨w.heap.size, 10, none⟩ = some (.int .i64 cm) ∧ w'.cell? ⟨w.heap.size, 11, none⟩ = some (.int .i64 idl) ∧ w'.cell? ⟨w.heap.size, 12, none⟩ = some (.int .i64 win))) := fun w' h => by
          obtain ⟨hc, _⟩ := HBX.out w' (b3.out.trans (h.mono hz3))
          exact ⟨h, hc⟩
        go_wp2
        clear m1 m2 m3 m4 m5 m6 m7 m8
        have hmm := @run_makeMap Tryz.prog
        go_region_held3 (fun w' => Below w3.heap.size w3 w' ∧ w'.cell? ⟨w.heap.size, 0, none⟩ = some (.string id) ∧ w'.cell? ⟨w.heap.size, 1, none⟩ = some (.string host) ∧ w'.cell? ⟨w.heap.size, 2, none⟩ = some (.bool server) ∧ w'.cell? ⟨w.heap.size, 3, none⟩ = some (.bool guarded) ∧ w'.cell? ⟨w.heap.size, 4, none⟩ = some (.slice p n c) ∧ w'.cell? ⟨w.heap.size, 5, none⟩ = some (.int .i64 seed) ∧ w'.cell? ⟨w.heap.size, 6, none⟩ = some (.string mech) ∧ w'.cell? ⟨w.heap.size, 7, none⟩ = some (.string un) ∧ w'.cell? ⟨w.heap.size, 8, none⟩ = some (.string us) ∧ w'.cell? ⟨w.heap.size, 9, none⟩ = some (.int .i64 mf) ∧ w'.cell? ⟨w.heap.size, 10, none⟩ = some (.int .i64 cm) ∧ w'.cell? ⟨w.heap.size, 11, none⟩ = some (.int .i64 idl) ∧ w'.cell? ⟨w.heap.size, 12, none⟩ = some (.int .i64 win))
          (first
            | assumption
            | (refine HALL.out _ ?_; repeat (first | exact Below.refl _ _ | refine bd ?_ | refine bt ?_ hb4 | refine ba ?_)))
          ((go_at_call 17; refine (HST.out _).mono ?_; rintro r w4 ⟨⟨sb, rfl⟩, hb4⟩))
        all_goals generalize hW5 : World.alloc _ _ = W5
        · have hx : w4.heap.size + 1 = (w4.alloc (.map #[] 0)).heap.size := (size_alloc _ _).symm
          have g4 := Lib.hid (show XAt W5 (w4.heap.size + 1) 4 (.slice p n c) from obj_at hW5 hx (by simp [zsize92]))
          have g14 := Lib.hid (show XAt W5 (w4.heap.size + 1) 14 (.pointer none) from obj_at hW5 hx (by
            repeat (rw [Array.getElem?_setIfInBounds_ne (by decide)])
            exact z14))
          have g15 := Lib.hid (show XAt W5 (w4.heap.size + 1) 15 (.pointer none) from obj_at hW5 hx (by
            repeat (rw [Array.getElem?_setIfInBounds_ne (by decide)])
            exact z15))
          have b5 := Lib.hid (show Below (w.heap.size + 1) W1 W5 from b3.out.trans ((show Below w3.heap.size w3 W5 by
            rw [← hW5]
            exact ba (ba (bt (bd (Below.refl _ _)) hb4))).mono hz3))
          have hz5 := (HBX.out W5 b5.out).2.2
          have x0 : w.heap.size + 1 ≤ w4.heap.size + 1 := by have := hb4.size; have : w3.drew.heap.size = w3.heap.size := rfl; omega
          have x1 : w4.heap.size + 1 < W5.heap.size := by rw [← hW5]; simp only [size_alloc]; omega
          have gF := Lib.hid (show FreshAt W5 (w4.heap.size + 1) (w4.heap.size) from ⟨fun j v h1 h2 h3 h4 => obj_at hW5 hx (by
            repeat (rw [Array.getElem?_setIfInBounds_ne (by omega)])
            exact h4), obj_at hW5 hx (by simp [zsize92]), by rw [← hW5, Below.heap_alloc _ _ _ (by rw [size_alloc]; omega)]; exact heap_new _ _, x1, by omega⟩)
          have hmb : w.heap.size ≤ w4.heap.size := by omega
          clear hW5 hx hb4
          obtain ⟨xb, hxb⟩ : ∃ xb, w4.heap.size + 1 = xb := ⟨_, rfl⟩
          rw [hxb] at g4 g14 g15 gF x0 x1 ⊢
          obtain ⟨mb, hmb'⟩ : ∃ mb, w4.heap.size = mb := ⟨_, rfl⟩
          rw [hmb'] at gF hmb
          clear hmb'
          clear hxb
          obtain ⟨⟨c0, c1, c2, c3, c4, c5, c6, c7, c8, c9, c10, c11, c12⟩, hb5, _⟩ := HBX.out W5 b5.out
          go_wp2_with (fail)
          refine (cloneU_any W5 (HU.out.below (hb5.mono hB)) (by omega)).mono ?_
          rintro e w6 ⟨⟨p6, n6, cc6, rfl⟩, hb6⟩
          have b6 := Lib.hid (b5.out.trans (hb6.mono hz5))
          have g4' := Lib.hid (g4.out.below hb6 x1)
          have g14' := Lib.hid (g14.out.below hb6 x1)
          have g15' := Lib.hid (g15.out.below hb6 x1)
          have x2 : xb < w6.heap.size := by have := hb6.size; omega
          have gF6 := Lib.hid (gF.out.below hb6)
          clear g4 g14 g15 b5 hz5 x1 hb6 hb5 c0 c1 c2 c3 c4 c5 c6 c7 c8 c9 c10 c11 c12
          obtain ⟨⟨c0, c1, c2, c3, c4, c5, c6, c7, c8, c9, c10, c11, c12⟩, hb6, hz6⟩ := HBX.out w6 b6.out
          obtain ⟨d4, e4⟩ := g4'.out
          cases guarded with
          | false =>
            have HF := Lib.hid (show R = true from HOK.out)
            go_wp2_with (fail)
            go_ret
            exact new_eq HF.out (new_some (hb6.setCell (Nat.le_of_succ_le x0) _) (Nat.le_of_succ_le x0) hmb (gF6.out.set (by decide)))
          | true =>
            cases server with
            | true =>
              have HF := Lib.hid (show R = usersOk users from HOK.out)
              go_wp2_with (fail)
              generalize hW7 : World.setCell _ _ _ = W7
              have b7 := Lib.hid (show Below (w.heap.size + 1) W1 W7 from hW7 ▸ b6.out.setCell x0 _)
              have g7 := Lib.hid (show XAt W7 xb 14 (.pointer none) from hW7 ▸ g14'.out.set (by decide))
              have gF7 := Lib.hid (show FreshAt W7 xb mb from hW7 ▸ gF6.out.set (by decide))
              have x7 : xb < W7.heap.size := Nat.lt_of_lt_of_le x2 (hW7 ▸ size_set _ _ _)
              obtain ⟨_, hb7, hz7⟩ := HBX.out W7 b7.out
              refine (server_any seed W7 (HU.out.below (hb7.mono hB)) (by omega)).mono ?_
              rintro e w8 ⟨hb8, hh⟩
              have b8 := Lib.hid (b7.out.trans (hb8.mono hz7))
              have g8 := Lib.hid (g7.out.below hb8 x7)
              have x8 : xb < w8.heap.size := by have := hb8.size; omega
              have gF8 := Lib.hid (gF7.out.below hb8)
              clear c0 c1 c2 c3 c4 c5 c6 c7 c8 c9 c10 c11 c12 hW7 hb7 hz7 hb8 d4 e4 g4' g14' g15' b6 hb6 hz6 hb3 hz3
              obtain ⟨⟨c0, c1, c2, c3, c4, c5, c6, c7, c8, c9, c10, c11, c12⟩, hb8, hz8⟩ := HBX.out w8 b8.out
              obtain ⟨d14, e14⟩ := g8.out
              rcases hh with ⟨hk, sv, rfl, _, _⟩ | ⟨hk, rfl⟩
              · have HK := Lib.hid (HF.out.trans hk)
                clear hk
                go_wp2_with (fail)
                go_ret
                exact new_eq HK.out (new_some (hb8.setCell (Nat.le_of_succ_le x0) _) (Nat.le_of_succ_le x0) hmb (gF8.out.set (by decide)))
              · have HK := Lib.hid (HF.out.trans hk)
                clear hk
                go_wp2_with (fail)
                go_ret
                exact new_eq HK.out (new_none (hb8.setCell (Nat.le_of_succ_le x0) _))
            | false =>
              have HF := Lib.hid (show R = clientOk mech (un, us) from HOK.out)
              go_wp2_with (fail)
              generalize hW7 : World.setCell _ _ _ = W7
              have b7 := Lib.hid (show Below (w.heap.size + 1) W1 W7 from hW7 ▸ b6.out.setCell x0 _)
              have g7 := Lib.hid (show XAt W7 xb 15 (.pointer none) from hW7 ▸ g15'.out.set (by decide))
              have gF7 := Lib.hid (show FreshAt W7 xb mb from hW7 ▸ gF6.out.set (by decide))
              have x7 : xb < W7.heap.size := Nat.lt_of_lt_of_le x2 (hW7 ▸ size_set _ _ _)
              obtain ⟨_, hb7, hz7⟩ := HBX.out W7 b7.out
              refine (client_any mech un us W7).mono ?_
              rintro e w8 ⟨hb8, hh⟩
              have b8 := Lib.hid (b7.out.trans (hb8.mono hz7))
              have g8 := Lib.hid (g7.out.below hb8 x7)
              have x8 : xb < w8.heap.size := by have := hb8.size; omega
              have gF8 := Lib.hid (gF7.out.below hb8)
              clear c0 c1 c2 c3 c4 c5 c6 c7 c8 c9 c10 c11 c12 hW7 hb7 hz7 hb8 d4 e4 g4' g14' g15' b6 hb6 hz6 hb3 hz3
              obtain ⟨⟨c0, c1, c2, c3, c4, c5, c6, c7, c8, c9, c10, c11, c12⟩, hb8, hz8⟩ := HBX.out w8 b8.out
              obtain ⟨d14, e14⟩ := g8.out
              rcases hh with ⟨hk, sv, rfl, _, _⟩ | ⟨hk, rfl⟩
              · have HK := Lib.hid (HF.out.trans hk)
                clear hk
                go_wp2_with (fail)
                go_ret
                exact new_eq HK.out (new_some (hb8.setCell (Nat.le_of_succ_le x0) _) (Nat.le_of_succ_le x0) hmb (gF8.out.set (by decide)))
              · have HK := Lib.hid (HF.out.trans hk)
                clear hk
                go_wp2_with (fail)
                go_ret
                exact new_eq HK.out (new_none (hb8.setCell (Nat.le_of_succ_le x0) _))
        · have hx : w4.heap.size = w4.heap.size := rfl
          have g4 := Lib.hid (show XAt W5 (w4.heap.size) 4 (.slice p n c) from obj_at hW5 hx (by simp [zsize92]))
          have g14 := Lib.hid (show XAt W5 (w4.heap.size) 14 (.pointer none) from obj_at hW5 hx (by
            repeat (rw [Array.getElem?_setIfInBounds_ne (by decide)])
            exact z14))
          have g15 := Lib.hid (show XAt W5 (w4.heap.size) 15 (.pointer none) from obj_at hW5 hx (by
            repeat (rw [Array.getElem?_setIfInBounds_ne (by decide)])
            exact z15))
          have b5 := Lib.hid (show Below (w.heap.size + 1) W1 W5 from b3.out.trans ((show Below w3.heap.size w3 W5 by
            rw [← hW5]
            exact ba (bt (bd (ba (Below.refl _ _))) hb4)).mono hz3))
          have hz5 := (HBX.out W5 b5.out).2.2
          have x0 : w.heap.size + 1 ≤ w4.heap.size := by have := hb4.size; have : (w3.alloc (.map #[] 0)).drew.heap.size = w3.heap.size + 1 := size_alloc _ _; omega
          have x1 : w4.heap.size < W5.heap.size := by rw [← hW5]; simp only [size_alloc]; omega
          have hw34 : w3.heap.size + 1 ≤ w4.heap.size := by
            have := hb4.size
            have e : (w3.alloc (.map #[] 0)).drew.heap.size = w3.heap.size + 1 := size_alloc _ _
            omega
          have gF := Lib.hid (show FreshAt W5 (w4.heap.size) (w3.heap.size) from ⟨fun j v h1 h2 h3 h4 => obj_at hW5 hx (by
            repeat (rw [Array.getElem?_setIfInBounds_ne (by omega)])
            exact h4), obj_at hW5 hx (by simp [zsize92]), by rw [← hW5, Below.heap_alloc _ _ _ (by omega), hb4.block w3.heap.size (by have : (w3.alloc (.map #[] 0)).drew.heap.size = w3.heap.size + 1 := size_alloc _ _; omega)]; exact heap_new _ _, x1, by omega⟩)
          have hmb : w.heap.size ≤ w3.heap.size := by omega
          clear hW5 hx hb4
          obtain ⟨xb, hxb⟩ : ∃ xb, w4.heap.size = xb := ⟨_, rfl⟩
          rw [hxb] at g4 g14 g15 gF x0 x1 ⊢
          obtain ⟨mb, hmb'⟩ : ∃ mb, w3.heap.size = mb := ⟨_, rfl⟩
          rw [hmb'] at gF hmb
          clear hmb'
          clear hxb
          obtain ⟨⟨c0, c1, c2, c3, c4, c5, c6, c7, c8, c9, c10, c11, c12⟩, hb5, _⟩ := HBX.out W5 b5.out
          go_wp2_with (fail)
          refine (cloneU_any W5 (HU.out.below (hb5.mono hB)) (by omega)).mono ?_
          rintro e w6 ⟨⟨p6, n6, cc6, rfl⟩, hb6⟩
          have b6 := Lib.hid (b5.out.trans (hb6.mono hz5))
          have g4' := Lib.hid (g4.out.below hb6 x1)
          have g14' := Lib.hid (g14.out.below hb6 x1)
          have g15' := Lib.hid (g15.out.below hb6 x1)
          have x2 : xb < w6.heap.size := by have := hb6.size; omega
          have gF6 := Lib.hid (gF.out.below hb6)
          clear g4 g14 g15 b5 hz5 x1 hb6 hb5 c0 c1 c2 c3 c4 c5 c6 c7 c8 c9 c10 c11 c12
          obtain ⟨⟨c0, c1, c2, c3, c4, c5, c6, c7, c8, c9, c10, c11, c12⟩, hb6, hz6⟩ := HBX.out w6 b6.out
          obtain ⟨d4, e4⟩ := g4'.out
          cases guarded with
          | false =>
            have HF := Lib.hid (show R = true from HOK.out)
            go_wp2_with (fail)
            go_ret
            exact new_eq HF.out (new_some (hb6.setCell (Nat.le_of_succ_le x0) _) (Nat.le_of_succ_le x0) hmb (gF6.out.set (by decide)))
          | true =>
            cases server with
            | true =>
              have HF := Lib.hid (show R = usersOk users from HOK.out)
              go_wp2_with (fail)
              generalize hW7 : World.setCell _ _ _ = W7
              have b7 := Lib.hid (show Below (w.heap.size + 1) W1 W7 from hW7 ▸ b6.out.setCell x0 _)
              have g7 := Lib.hid (show XAt W7 xb 14 (.pointer none) from hW7 ▸ g14'.out.set (by decide))
              have gF7 := Lib.hid (show FreshAt W7 xb mb from hW7 ▸ gF6.out.set (by decide))
              have x7 : xb < W7.heap.size := Nat.lt_of_lt_of_le x2 (hW7 ▸ size_set _ _ _)
              obtain ⟨_, hb7, hz7⟩ := HBX.out W7 b7.out
              refine (server_any seed W7 (HU.out.below (hb7.mono hB)) (by omega)).mono ?_
              rintro e w8 ⟨hb8, hh⟩
              have b8 := Lib.hid (b7.out.trans (hb8.mono hz7))
              have g8 := Lib.hid (g7.out.below hb8 x7)
              have x8 : xb < w8.heap.size := by have := hb8.size; omega
              have gF8 := Lib.hid (gF7.out.below hb8)
              clear c0 c1 c2 c3 c4 c5 c6 c7 c8 c9 c10 c11 c12 hW7 hb7 hz7 hb8 d4 e4 g4' g14' g15' b6 hb6 hz6 hb3 hz3
              obtain ⟨⟨c0, c1, c2, c3, c4, c5, c6, c7, c8, c9, c10, c11, c12⟩, hb8, hz8⟩ := HBX.out w8 b8.out
              obtain ⟨d14, e14⟩ := g8.out
              rcases hh with ⟨hk, sv, rfl, _, _⟩ | ⟨hk, rfl⟩
              · have HK := Lib.hid (HF.out.trans hk)
                clear hk
                go_wp2_with (fail)
                go_ret
                exact new_eq HK.out (new_some (hb8.setCell (Nat.le_of_succ_le x0) _) (Nat.le_of_succ_le x0) hmb (gF8.out.set (by decide)))
              · have HK := Lib.hid (HF.out.trans hk)
                clear hk
                go_wp2_with (fail)
                go_ret
                exact new_eq HK.out (new_none (hb8.setCell (Nat.le_of_succ_le x0) _))
            | false =>
              have HF := Lib.hid (show R = clientOk mech (un, us) from HOK.out)
              go_wp2_with (fail)
              generalize hW7 : World.setCell _ _ _ = W7
              have b7 := Lib.hid (show Below (w.heap.size + 1) W1 W7 from hW7 ▸ b6.out.setCell x0 _)
              have g7 := Lib.hid (show XAt W7 xb 15 (.pointer none) from hW7 ▸ g15'.out.set (by decide))
              have gF7 := Lib.hid (show FreshAt W7 xb mb from hW7 ▸ gF6.out.set (by decide))
              have x7 : xb < W7.heap.size := Nat.lt_of_lt_of_le x2 (hW7 ▸ size_set _ _ _)
              obtain ⟨_, hb7, hz7⟩ := HBX.out W7 b7.out
              refine (client_any mech un us W7).mono ?_
              rintro e w8 ⟨hb8, hh⟩
              have b8 := Lib.hid (b7.out.trans (hb8.mono hz7))
              have g8 := Lib.hid (g7.out.below hb8 x7)
              have x8 : xb < w8.heap.size := by have := hb8.size; omega
              have gF8 := Lib.hid (gF7.out.below hb8)
              clear c0 c1 c2 c3 c4 c5 c6 c7 c8 c9 c10 c11 c12 hW7 hb7 hz7 hb8 d4 e4 g4' g14' g15' b6 hb6 hz6 hb3 hz3
              obtain ⟨⟨c0, c1, c2, c3, c4, c5, c6, c7, c8, c9, c10, c11, c12⟩, hb8, hz8⟩ := HBX.out w8 b8.out
              obtain ⟨d14, e14⟩ := g8.out
              rcases hh with ⟨hk, sv, rfl, _, _⟩ | ⟨hk, rfl⟩
              · have HK := Lib.hid (HF.out.trans hk)
                clear hk
                go_wp2_with (fail)
                go_ret
                exact new_eq HK.out (new_some (hb8.setCell (Nat.le_of_succ_le x0) _) (Nat.le_of_succ_le x0) hmb (gF8.out.set (by decide)))
              · have HK := Lib.hid (HF.out.trans hk)
                clear hk
                go_wp2_with (fail)
                go_ret
                exact new_eq HK.out (new_none (hb8.setCell (Nat.le_of_succ_le x0) _))
      · obtain rfl : bs = false := by
          cases bs with
          | false => rfl
          | true => exact absurd (HBS.out.1 rfl).2.2 hnum
        have HF := Lib.hid (show R = false from HOK.out)
        have HB3 := Lib.hid hb3
        unfold numsOk at hnum
        clear HBS HOK H1 H2 HBX hb3
        go_wp2
        all_goals first
          | (exfalso; omega)
          | (go_ret; exact new_eq HF.out (new_none HB3.out))
end Go.Proofs.YtannnhopgdlapaaGreatDoor.Uc
