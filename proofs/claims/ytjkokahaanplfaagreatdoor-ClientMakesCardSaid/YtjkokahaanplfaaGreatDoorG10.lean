/-
  client.New and the reference's: nothing of a server, nothing of a configuration that may not be. Condition: the tables of unicode/utf8; the users lie so.
-/
import Derived.Test.YtjkokahaanplfaaGreatDoorG9
namespace Go.Proofs.YtjkokahaanplfaaGreatDoor.Uc
open Go Go.RowKit Go.Proofs.Nu

set_option maxRecDepth 100000 in
set_option maxHeartbeats 4000000 in
theorem clientNew_any {B : Nat} (c : Cfg) (uv : Value) (w : World) (hu : UsAt B w uv c.users) (hT : Tabs w) (hB : B ≤ w.heap.size) :
    Calls Tryz.prog 5 #[.agg (cfgCells c uv)] w (MadeAns (!c.server && c.ok) w) := by
  obtain ⟨id, host, server, guarded, users, seed, mech, ⟨un, us⟩, mf, cm, idl, win⟩ := c
  dsimp only [cfgCells] at hu ⊢
  obtain ⟨p, n, c, huv⟩ : ∃ p n c, uv = .slice p n c := by obtain ⟨p, c, h, _⟩ := hu.form; exact ⟨p, _, c, h⟩
  subst huv
  have HU := Lib.hid hu
  have HTb := Lib.hid hT
  clear hu hT
  obtain ⟨R, hR⟩ : ∃ R, (Cfg.mk id host server guarded users seed mech (un, us) mf cm idl win).ok = R := ⟨_, rfl⟩
  have HC : Hid (∀ w', UsAt B w' (.slice p n c) users → Tabs w' → B ≤ w'.heap.size → Calls Tryz.prog 11 #[.agg #[.string id, .string host, .bool server, .bool guarded, .slice p n c, .int .i64 seed, .string mech, .string un, .string us, .int .i64 mf, .int .i64 cm, .int .i64 idl, .int .i64 win]] w' (MadeAns R w')) := fun w' h1 h2 h3 => by
    have := connNew_any ⟨id, host, server, guarded, users, seed, mech, (un, us), mf, cm, idl, win⟩ (.slice p n c) w' h1 h2 h3
    rw [hR] at this
    exact this
  rw [hR]
  clear hR
  have HBX : Hid (∀ w', Below (w.heap.size + 1) (w.alloc (.cells #[.string id, .string host, .bool server, .bool guarded, .slice p n c, .int .i64 seed, .string mech, .string un, .string us, .int .i64 mf, .int .i64 cm, .int .i64 idl, .int .i64 win] 26)) w' → CfgAt w' w.heap.size id host server guarded (.slice p n c) seed mech un us mf cm idl win ∧ Below w.heap.size w w' ∧ w.heap.size + 1 ≤ w'.heap.size ∧ w'.frozen? ⟨w.heap.size, 4, none⟩ = false) := fun w' h =>
    have k := cfg_new w _ _ _ _ _ _ _ _ _ _ _ _ _ _ w' h
    ⟨k.1, k.2.1, k.2.2, (h.frozen (p := ⟨w.heap.size, 4, none⟩) (Nat.lt_succ_self _)).trans (World.frozen?_alloc_new _ _ _ _)⟩
  cases server with
  | true =>
    go_enter Tryz.func5, Tryz.ntmps5
    go_wp2_with (fail)
    go_ret
    exact made_none (below_boxes _ _)
  | false =>
    go_enter Tryz.func5, Tryz.ntmps5
    go_wp2_with (fail)
    obtain ⟨W1, hW1⟩ : ∃ W1, w.alloc (.cells #[.string id, .string host, .bool false, .bool guarded, .slice p n c, .int .i64 seed, .string mech, .string un, .string us, .int .i64 mf, .int .i64 cm, .int .i64 idl, .int .i64 win] 26) = W1 := ⟨_, rfl⟩
    rw [hW1] at HBX ⊢
    clear hW1
    obtain ⟨_, hb1, hz1, _⟩ := HBX.out W1 (Below.refl _ _)
    refine (HC.out W1 (HU.out.below (hb1.mono hB)) (HTb.out.below hb1) (by omega)).mono ?_
    rintro e w2 ⟨hb2, hh⟩
    have b2 := Lib.hid (hb2.mono hz1)
    clear hb2 hb1 hz1
    obtain ⟨⟨c0, c1, c2, c3, c4, c5, c6, c7, c8, c9, c10, c11, c12⟩, hb2, hz2, fz2⟩ := HBX.out w2 b2.out
    rcases hh with ⟨hk, sv, rfl, _, _⟩ | ⟨hk, rfl⟩
    · have HK := Lib.hid hk
      clear hk
      go_wp2_with (fail)
      refine (cloneU_any w2 (HU.out.below (hb2.mono hB)) (by omega)).mono ?_
      rintro e w3 ⟨⟨p6, n6, cc6, rfl⟩, hb3⟩
      have b3 := Lib.hid (b2.out.trans (hb3.mono hz2))
      clear c0 c1 c2 c3 c4 c5 c6 c7 c8 c9 c10 c11 c12 fz2 hb2 hz2 hb3
      obtain ⟨⟨c0, c1, c2, c3, c4, c5, c6, c7, c8, c9, c10, c11, c12⟩, hb3, hz3, fz3⟩ := HBX.out w3 b3.out
      have hmm := @run_makeMap Tryz.prog
      go_wp2_with (fail)
      go_ret
      exact made_eq (by rw [HK.out]; rfl) ⟨ba (ba (hb3.setCell (Nat.le_refl _) _)), .inl ⟨rfl, _, rfl, by omega, by
        have := size_set w3 ⟨w.heap.size, 4, none⟩ (.slice p6 n6 cc6)
        simp only [size_alloc]
        omega⟩⟩
    · have HK := Lib.hid hk
      clear hk
      go_wp2_with (fail)
      go_ret
      exact made_eq (by rw [HK.out]; rfl) (made_none hb2)

set_option maxRecDepth 100000 in
set_option maxHeartbeats 4000000 in
theorem rclientNew_any {B : Nat} (c : Cfg) (uv : Value) (w : World) (hu : UsAt B w uv c.users) (hB : B ≤ w.heap.size) :
    Calls Tryz.prog 6 #[.agg (cfgCells c uv)] w (MadeAns (!c.server && c.ok) w) := by
  obtain ⟨id, host, server, guarded, users, seed, mech, ⟨un, us⟩, mf, cm, idl, win⟩ := c
  dsimp only [cfgCells] at hu ⊢
  obtain ⟨p, n, c, huv⟩ : ∃ p n c, uv = .slice p n c := by obtain ⟨p, c, h, _⟩ := hu.form; exact ⟨p, _, c, h⟩
  subst huv
  have HU := Lib.hid hu
  clear hu
  obtain ⟨R, hR⟩ : ∃ R, (Cfg.mk id host server guarded users seed mech (un, us) mf cm idl win).ok = R := ⟨_, rfl⟩
  have HC : Hid (∀ w', UsAt B w' (.slice p n c) users → B ≤ w'.heap.size → Calls Tryz.prog 13 #[.agg #[.string id, .string host, .bool server, .bool guarded, .slice p n c, .int .i64 seed, .string mech, .string un, .string us, .int .i64 mf, .int .i64 cm, .int .i64 idl, .int .i64 win]] w' (MadeAns R w')) := fun w' h1 h3 => by
    have := rconnNew_any ⟨id, host, server, guarded, users, seed, mech, (un, us), mf, cm, idl, win⟩ (.slice p n c) w' h1 h3
    rw [hR] at this
    exact this
  rw [hR]
  clear hR
  have HBX : Hid (∀ w', Below (w.heap.size + 1) (w.alloc (.cells #[.string id, .string host, .bool server, .bool guarded, .slice p n c, .int .i64 seed, .string mech, .string un, .string us, .int .i64 mf, .int .i64 cm, .int .i64 idl, .int .i64 win] 26)) w' → CfgAt w' w.heap.size id host server guarded (.slice p n c) seed mech un us mf cm idl win ∧ Below w.heap.size w w' ∧ w.heap.size + 1 ≤ w'.heap.size) := fun w' h => cfg_new w _ _ _ _ _ _ _ _ _ _ _ _ _ _ w' h
  go_enter Tryz.func6, Tryz.ntmps6
  go_wp2_with (fail)
  obtain ⟨W1, hW1⟩ : ∃ W1, w.alloc (.cells #[.string id, .string host, .bool server, .bool guarded, .slice p n c, .int .i64 seed, .string mech, .string un, .string us, .int .i64 mf, .int .i64 cm, .int .i64 idl, .int .i64 win] 26) = W1 := ⟨_, rfl⟩
  rw [hW1] at HBX ⊢
  clear hW1
  obtain ⟨_, hb1, hz1⟩ := HBX.out W1 (Below.refl _ _)
  refine (HC.out W1 (HU.out.below (hb1.mono hB)) (by omega)).mono ?_
  rintro e w2 ⟨hb2, hh⟩
  have b2 := Lib.hid (hb2.mono hz1)
  clear hb2 hb1 hz1
  obtain ⟨⟨c0, c1, c2, c3, c4, c5, c6, c7, c8, c9, c10, c11, c12⟩, hb2, hz2⟩ := HBX.out w2 b2.out
  rcases hh with ⟨hk, sv, rfl, _, _⟩ | ⟨hk, rfl⟩
  · have HK := Lib.hid hk
    clear hk
    cases server with
    | true =>
      go_wp2_with (fail)
      go_ret
      exact made_none hb2
    | false =>
      go_wp2_with (fail)
      go_ret
      exact made_eq (by rw [HK.out]; rfl) (made_after hb2 _)
  · have HK := Lib.hid hk
    clear hk
    cases server with
    | true =>
      go_wp2_with (fail)
      go_ret
      exact made_none hb2
    | false =>
      go_wp2_with (fail)
      go_ret
      exact made_eq (by rw [HK.out]; rfl) (made_none hb2)
end Go.Proofs.YtjkokahaanplfaaGreatDoor.Uc
