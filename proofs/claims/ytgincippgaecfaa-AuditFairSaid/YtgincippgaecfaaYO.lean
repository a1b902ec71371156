/-
  Y5: The small world's does: a sender is told. No condition but how the world lies.
  Y6: The small world's does: something is got. No condition but how the world lies.
  Y7: The small world's does: something is answered. No condition but how the world lies.
-/
import Derived.Test.YtgincippgaecfaaYN
import Derived.Deep.Cut
namespace Go.Proofs.Ytgincippgaecfaa.Au
open Go Go.RowKit

set_option maxRecDepth 100000 in
set_option maxHeartbeats 16000000 in
theorem does_tell (B : Nat) (w0 : World) (wb : Nat) (all : List Item) (h : List Ent) (a : Option Addr) (capa : Nat) (vh : Value) (W : World) (H : WS B w0 wb (all.length : Int) all h (.slice a all.length capa) vh W) (hl : h.length ≤ 900) (hla : all.length ≤ 900) (k w n : Int) (f : Bool) (hn1 : -9223372036854775808 ≤ n) (hn2 : n ≤ 9223372036854775807) (hkk : (wrap64 (k.tmod 6 + 6)).tmod 6 = 1) :
    Calls Try.prog 19 #[.pointer (some ⟨wb, 0, none⟩), .agg #[.int .i64 k, .int .i64 w, .int .i64 n, .bool f]] W (DoesPost B w0 wb all h) := by
  obtain ⟨v, hv⟩ : ∃ v, (wrap64 (w.tmod 8 + 8)).tmod 8 = v := ⟨_, rfl⟩
  have hv0 := rem8 w
  rw [hv] at hv0
  obtain ⟨hv1, hv2⟩ := hv0
  have HA := H.later ((Below.refl _ W).alloc (Nat.le_refl _) (.cells #[.int .i64 k, .int .i64 w, .int .i64 n, .bool f] 51))
  have hlen : (all.length : Int) ≤ 900 := by omega
  have HH := Lib.hid HA
  clear H HA
  by_cases hn : n < 0
  all_goals
    go_enter Try.func19, Try.ntmps19
    go_wp2
    go_loopw [7] (fun i wr => ∃ j : Nat, i = .int .i64 j ∧ j ≤ all.length ∧ WS B w0 wb (all.length : Int) all h (.slice a all.length capa) vh wr) (fun i _ => all.length - (intOf i).toNat)
    case atStart => exact ⟨0, rfl, Nat.zero_le _, HH.out⟩
    case round =>
      obtain ⟨j, rfl, hj, Hr⟩ := hrel
      obtain ⟨c0, _, _⟩ := Hr.cells
      have HR := Lib.hid Hr
      by_cases hlt : j < all.length
      · obtain ⟨x, hx⟩ : ∃ x, all[j]? = some x := ⟨_, List.getElem?_eq_getElem hlt⟩
        obtain ⟨ga, cap2, e2, hgw, hgl, hcap, hcell, hfr⟩ := Hr.itemAt hx
        simp only [Value.slice.injEq] at e2
        obtain ⟨rfl, _, rfl⟩ := e2
        obtain ⟨xn, xd, xc, xh, xq, xs, xt, xg⟩ := x
        have d0 : wr.cell? ⟨ga, j * 8, none⟩ = some (.int .i64 xn) := hcell 0 _ rfl
        have d1 : wr.cell? ⟨ga, j * 8 + 1, none⟩ = some (.bool xd) := hcell 1 _ rfl
        have d2 : wr.cell? ⟨ga, j * 8 + 2, none⟩ = some (.int .i64 xc) := hcell 2 _ rfl
        have d3 : wr.cell? ⟨ga, j * 8 + 3, none⟩ = some (.int .i64 xh) := hcell 3 _ rfl
        have d4 : wr.cell? ⟨ga, j * 8 + 4, none⟩ = some (.string xq) := hcell 4 _ rfl
        have d5 : wr.cell? ⟨ga, j * 8 + 5, none⟩ = some (.int .i64 xs) := hcell 5 _ rfl
        have d6 : wr.cell? ⟨ga, j * 8 + 6, none⟩ = some (.bool xt) := hcell 6 _ rfl
        have d7 : wr.cell? ⟨ga, j * 8 + 7, none⟩ = some (.bool xg) := hcell 7 _ rfl
        have hB := (Below.refl _ wr).alloc (Nat.le_refl _) (.cells #[.int .i64 xn, .bool xd, .int .i64 xc, .int .i64 xh, .string xq, .int .i64 xs, .bool xt, .bool xg] 53)
        have HX := Lib.hid hx
        have Hr2 := HR.out.later hB
        cases xt with
        | true =>
          have HR2 := Lib.hid Hr2
          clear hx hcell hfr Hr Hr2 hB
          go_wp2
          exact ⟨⟨j + 1, by go_num, by omega, HR2.out⟩, by simp [intOf]; omega⟩
        | false =>
          have hT := (HR.out.turn (x' := ⟨xn, xd, xc, xh, xq, xs, true, xg⟩) (k := 6) (u := .bool true) rfl hx (by omega) rfl).later ((Below.refl _ _).alloc (Nat.le_refl _) (.cells #[.int .i64 xn, .bool xd, .int .i64 xc, .int .i64 xh, .string xq, .int .i64 xs, .bool false, .bool xg] 53))
          have f6 := (hB.frozen (p := ⟨ga, j * 8 + 6, none⟩) hgl).trans (hfr (j * 8 + 6))
          have e6 := (hB.cell (p := ⟨ga, j * 8 + 6, none⟩) hgl).trans d6
          obtain ⟨c0', _, _⟩ := Hr2.cells
          have hadd : Calls Try.prog 33 #[.pointer (some ⟨wb, 0, none⟩), .int .i64 2, .int .i64 xs, .string ⟨#[113, 117, 101, 117, 101, 47, 113]⟩, .agg #[.int .i64 xn, .bool xd, .int .i64 xc, .int .i64 xh, .string xq, .int .i64 xs, .bool false, .bool xg], .int .i64 0] _ _ := add_any B w0 wb _ _ h _ vh _ hT (by omega) 2 xs qQ ⟨xn, xd, xc, xh, xq, xs, false, xg⟩ 0
          have nga : ga ≠ wr.heap.size := by omega
          clear hx hcell hfr Hr Hr2 hB hT
          go_wp2_with ((go_at_call 33; refine hadd.mono ?_; clear hadd; rintro r w10 ⟨rfl, vh', hH'⟩))
          go_end0
          exact ⟨rfl, _, _, _, _, Move.tell all h j _ HX.out rfl, by simpa using hH'⟩
      · obtain rfl : j = all.length := by omega
        clear Hr
        go_wp2
        go_end0
        exact ⟨rfl, all, h, _, _, Move.nop all h, HR.out⟩

end Go.Proofs.Ytgincippgaecfaa.Au

namespace Go.Proofs.Ytgincippgaecfaa.Au
open Go Go.RowKit
attribute [local go_sem ↓] Go.wp_at_zero Go.wp_at_succ

set_option maxRecDepth 100000 in
set_option maxHeartbeats 16000000 in
theorem does_get (B : Nat) (w0 : World) (wb : Nat) (all : List Item) (h : List Ent) (a : Option Addr) (capa : Nat) (vh : Value) (W : World) (H : WS B w0 wb (all.length : Int) all h (.slice a all.length capa) vh W) (hl : h.length ≤ 900) (hla : all.length ≤ 900) (k w n : Int) (f : Bool) (hn1 : -9223372036854775808 ≤ n) (hn2 : n ≤ 9223372036854775807) (hkk : (wrap64 (k.tmod 6 + 6)).tmod 6 = 2) :
    Calls Try.prog 19 #[.pointer (some ⟨wb, 0, none⟩), .agg #[.int .i64 k, .int .i64 w, .int .i64 n, .bool f]] W (DoesPost B w0 wb all h) := by
  obtain ⟨v, hv⟩ : ∃ v, (wrap64 (w.tmod 8 + 8)).tmod 8 = v := ⟨_, rfl⟩
  have hv0 := rem8 w
  rw [hv] at hv0
  obtain ⟨hv1, hv2⟩ := hv0
  have HA := H.later ((Below.refl _ W).alloc (Nat.le_refl _) (.cells #[.int .i64 k, .int .i64 w, .int .i64 n, .bool f] 51))
  have hlen : (all.length : Int) ≤ 900 := by omega
  have hpick := fun (m : Int) (h0 : 0 ≤ m) (h9 : m ≤ 9223372036854775807) => pick_any B w0 wb _ all h a capa vh _ HA (by omega) m h0 h9 true
  have HH := Lib.hid HA
  clear H HA
  by_cases hn : n < 0
  all_goals
    go_enter Try.func19, Try.ntmps19
    go_upto_region 21 with ((go_at_call 34; refine (hpick _ (by omega) (by omega)).mono ?_; clear hpick; rintro r w2 ⟨⟨p, rfl, hp⟩, hb2⟩; have HP := Lib.hid hp; have HB2 := Lib.hid hb2; clear hp hb2))
    rcases HP.out with rfl | ⟨i, x, rfl, hx, hg, hho⟩
    · clear HP
      go_wp2
      go_end0
      exact ⟨rfl, all, h, _, _, Move.nop all h, HH.out.later HB2.out⟩
    · clear HP
      have Hr := HH.out.later HB2.out
      have hil := (List.getElem?_eq_some_iff.1 hx).1
      obtain ⟨c0, _, _⟩ := Hr.cells
      obtain ⟨ga, cap2, e2, hgw, hgl, hcap, hcell, hfr⟩ := Hr.itemAt hx
      simp only [Value.slice.injEq] at e2
      obtain ⟨rfl, _, rfl⟩ := e2
      obtain ⟨xn, xd, xc, xh, xq, xs, xt, xg⟩ := x
      simp only at hg hho
      obtain rfl : xh = 0 := by simpa using hho
      have d3 : w2.cell? ⟨ga, i * 8 + 3, none⟩ = some (.int .i64 0) := hcell 3 _ rfl
      have f3 := hfr (i * 8 + 3)
      have hT := Hr.turn (x' := ⟨xn, xd, xc, 1 + v, xq, xs, xt, xg⟩) (k := 3) (u := .int .i64 (1 + v)) rfl hx (by omega) rfl
      have hi0 : (i : Int) < (all.length : Int) := by omega
      have hi00 : (0 : Int) ≤ (i : Int) := by omega
      have HT := Lib.hid hT
      have HX := Lib.hid hx
      have HG := Lib.hid hg
      clear Hr hT hx hg hho hcell hfr
      go_wp2
      obtain ⟨W3, hW3⟩ : ∃ W3, w2.setCell ⟨ga, i * 8 + 3, none⟩ (.int .i64 (1 + v)) = W3 := ⟨_, rfl⟩
      rw [hW3] at HT ⊢
      have hx3 : (all.set i ⟨xn, xd, xc, 1 + v, xq, xs, xt, xg⟩)[i]? = some ⟨xn, xd, xc, 1 + v, xq, xs, xt, xg⟩ := List.getElem?_set_self hil
      obtain ⟨q0, _, _⟩ := HT.out.cells
      obtain ⟨ga3, cap3, e3, _, _, _, hcell3, _⟩ := HT.out.itemAt hx3
      simp only [Value.slice.injEq, Option.some.injEq, Addr.mk.injEq, List.length_set, true_and, and_true] at e3
      obtain ⟨rfl, rfl⟩ := e3
      have z0 : W3.cell? ⟨ga, i * 8, none⟩ = some (.int .i64 xn) := hcell3 0 _ rfl
      have z1 : W3.cell? ⟨ga, i * 8 + 1, none⟩ = some (.bool xd) := hcell3 1 _ rfl
      have z2 : W3.cell? ⟨ga, i * 8 + 2, none⟩ = some (.int .i64 xc) := hcell3 2 _ rfl
      have z3 : W3.cell? ⟨ga, i * 8 + 3, none⟩ = some (.int .i64 (1 + v)) := hcell3 3 _ rfl
      have z4 : W3.cell? ⟨ga, i * 8 + 4, none⟩ = some (.string xq) := hcell3 4 _ rfl
      have z5 : W3.cell? ⟨ga, i * 8 + 5, none⟩ = some (.int .i64 xs) := hcell3 5 _ rfl
      have z6 : W3.cell? ⟨ga, i * 8 + 6, none⟩ = some (.bool xt) := hcell3 6 _ rfl
      have z7 : W3.cell? ⟨ga, i * 8 + 7, none⟩ = some (.bool xg) := hcell3 7 _ rfl
      have HX3 := Lib.hid hx3
      have hadd := fun q => add_any B w0 wb _ _ h _ vh (W3.drewN q) (HT.out.later (below_drewN (Below.refl _ W3) q)) (by omega) 4 (1 + v) xq ⟨xn, xd, xc, 1 + v, xq, xs, xt, xg⟩ xc
      have HADD := Lib.hid hadd
      clear hW3 hcell3 hx3 c0 d3 f3 hadd
      go_region_held3 (fun w' => w'.cell? ⟨wb, 0, none⟩ = some (.slice (some ⟨ga, 0, none⟩) all.length capa) ∧ w'.cell? ⟨ga, i * 8, none⟩ = some (.int .i64 xn) ∧ w'.cell? ⟨ga, i * 8 + 1, none⟩ = some (.bool xd) ∧ w'.cell? ⟨ga, i * 8 + 2, none⟩ = some (.int .i64 xc) ∧ w'.cell? ⟨ga, i * 8 + 3, none⟩ = some (.int .i64 (1 + v)) ∧ w'.cell? ⟨ga, i * 8 + 4, none⟩ = some (.string xq) ∧ w'.cell? ⟨ga, i * 8 + 5, none⟩ = some (.int .i64 xs) ∧ w'.cell? ⟨ga, i * 8 + 6, none⟩ = some (.bool xt) ∧ w'.cell? ⟨ga, i * 8 + 7, none⟩ = some (.bool xg))
        (first | exact ⟨q0, z0, z1, z2, z3, z4, z5, z6, z7⟩ | exact ⟨p0, y0, y1, y2, y3, y4, y5, y6, y7⟩ | go_keep)
        ((go_at_call 33; refine (HADD.out 1).mono ?_; rintro r w10 ⟨rfl, vh', hH'⟩; obtain ⟨p0, _, _⟩ := hH'.cells; obtain ⟨ga4, cap4, e4, _, _, _, hcell4, _⟩ := hH'.itemAt HX3.out; simp only [Value.slice.injEq, Option.some.injEq, Addr.mk.injEq, List.length_set, true_and, and_true] at e4; obtain ⟨rfl, rfl⟩ := e4; have y0 : w10.cell? ⟨ga, i * 8, none⟩ = some (.int .i64 xn) := hcell4 0 _ rfl; have y1 : w10.cell? ⟨ga, i * 8 + 1, none⟩ = some (.bool xd) := hcell4 1 _ rfl; have y2 : w10.cell? ⟨ga, i * 8 + 2, none⟩ = some (.int .i64 xc) := hcell4 2 _ rfl; have y3 : w10.cell? ⟨ga, i * 8 + 3, none⟩ = some (.int .i64 (1 + v)) := hcell4 3 _ rfl; have y4 : w10.cell? ⟨ga, i * 8 + 4, none⟩ = some (.string xq) := hcell4 4 _ rfl; have y5 : w10.cell? ⟨ga, i * 8 + 5, none⟩ = some (.int .i64 xs) := hcell4 5 _ rfl; have y6 : w10.cell? ⟨ga, i * 8 + 6, none⟩ = some (.bool xt) := hcell4 6 _ rfl; have y7 : w10.cell? ⟨ga, i * 8 + 7, none⟩ = some (.bool xg) := hcell4 7 _ rfl; have HH' := Lib.hid hH'; clear hH' hcell4))
      all_goals go_wp2
      all_goals go_end0
      all_goals exact ⟨rfl, _, _, _, _, Move.get all h i _ (1 + v) HX.out HG.out rfl (by omega) (by omega), by rw [List.length_set]; exact HH'.out⟩

end Go.Proofs.Ytgincippgaecfaa.Au

namespace Go.Proofs.Ytgincippgaecfaa.Au
open Go Go.RowKit
attribute [local go_sem ↓] Go.wp_at_zero Go.wp_at_succ

theorem box_size (W : World) (c : Array Value) (t : TypeId) : (W.alloc (.cells c t)).heap.size = W.heap.size + 1 := by
  show (W.heap.push _).size = _
  exact Array.size_push _
theorem box_kind (W : World) (x : Value) (a b c : Value) (t : TypeId) : (W.alloc (.cells #[x, a, b, c] t)).cell? ⟨W.heap.size, 0, none⟩ = some x := by
  first
  | (simp [go_sem]; done)
  | (simp [World.cell?, World.alloc]; done)
  | (unfold World.cell?; simp [World.alloc]; done)
  | go_wp2

set_option maxRecDepth 100000 in
set_option maxHeartbeats 16000000 in
theorem does_answer (B : Nat) (w0 : World) (wb : Nat) (all : List Item) (h : List Ent) (a : Option Addr) (capa : Nat) (vh : Value) (W : World) (H : WS B w0 wb (all.length : Int) all h (.slice a all.length capa) vh W) (hl : h.length ≤ 900) (hla : all.length ≤ 900) (k w n : Int) (f : Bool) (hn1 : -9223372036854775808 ≤ n) (hn2 : n ≤ 9223372036854775807) (hkk : (wrap64 (k.tmod 6 + 6)).tmod 6 = 3) :
    Calls Try.prog 19 #[.pointer (some ⟨wb, 0, none⟩), .agg #[.int .i64 k, .int .i64 w, .int .i64 n, .bool f]] W (DoesPost B w0 wb all h) := by
  obtain ⟨v, hv⟩ : ∃ v, (wrap64 (w.tmod 8 + 8)).tmod 8 = v := ⟨_, rfl⟩
  have hv0 := rem8 w
  rw [hv] at hv0
  obtain ⟨hv1, hv2⟩ := hv0
  have HA := H.later ((Below.refl _ W).alloc (Nat.le_refl _) (.cells #[.int .i64 k, .int .i64 w, .int .i64 n, .bool f] 51))
  have hlen : (all.length : Int) ≤ 900 := by omega
  have hpick := fun (m : Int) (h0 : 0 ≤ m) (h9 : m ≤ 9223372036854775807) => pick_any B w0 wb _ all h a capa vh _ HA (by omega) m h0 h9 false
  have HH := Lib.hid HA
  have HW := Lib.hid H
  clear H HA
  by_cases hn : n < 0
  all_goals
    go_enter Try.func19, Try.ntmps19
    go_upto_region 27 with ((go_at_call 34; refine (hpick _ (by omega) (by omega)).mono ?_; clear hpick; rintro r w2 ⟨⟨p, rfl, hp⟩, hb2⟩; have HP := Lib.hid hp; have HB2 := Lib.hid hb2; clear hp hb2))
    rcases HP.out with rfl | ⟨i, x, rfl, hx, hg, hho⟩
    · clear HP
      go_wp2
      go_end0
      exact ⟨rfl, all, h, _, _, Move.nop all h, HH.out.later HB2.out⟩
    · clear HP
      have Hr := HH.out.later HB2.out
      have hil := (List.getElem?_eq_some_iff.1 hx).1
      obtain ⟨c0, _, _⟩ := Hr.cells
      obtain ⟨ga, cap2, e2, hgw, hgl, hcap, hcell, hfr⟩ := Hr.itemAt hx
      simp only [Value.slice.injEq] at e2
      obtain ⟨rfl, _, rfl⟩ := e2
      obtain ⟨xn, xd, xc, xh, xq, xs, xt, xg⟩ := x
      simp only at hg hho
      have hxh : xh ≠ 0 := by simpa using hho
      have z0 : w2.cell? ⟨ga, i * 8, none⟩ = some (.int .i64 xn) := hcell 0 _ rfl
      have z1 : w2.cell? ⟨ga, i * 8 + 1, none⟩ = some (.bool xd) := hcell 1 _ rfl
      have z2 : w2.cell? ⟨ga, i * 8 + 2, none⟩ = some (.int .i64 xc) := hcell 2 _ rfl
      have z3 : w2.cell? ⟨ga, i * 8 + 3, none⟩ = some (.int .i64 xh) := hcell 3 _ rfl
      have z4 : w2.cell? ⟨ga, i * 8 + 4, none⟩ = some (.string xq) := hcell 4 _ rfl
      have z5 : w2.cell? ⟨ga, i * 8 + 5, none⟩ = some (.int .i64 xs) := hcell 5 _ rfl
      have z6 : w2.cell? ⟨ga, i * 8 + 6, none⟩ = some (.bool xt) := hcell 6 _ rfl
      have z7 : w2.cell? ⟨ga, i * 8 + 7, none⟩ = some (.bool xg) := hcell 7 _ rfl
      have f3 := hfr (i * 8 + 3)
      have f7 := hfr (i * 8 + 7)
      have hT1 := Hr.turn (x' := ⟨xn, xd, xc, 0, xq, xs, xt, xg⟩) (k := 3) (u := .int .i64 0) rfl hx (by omega) rfl
      have hT2 := hT1.turn (i := i) (x := ⟨xn, xd, xc, 0, xq, xs, xt, xg⟩) (x' := ⟨xn, xd, xc, 0, xq, xs, xt, true⟩) (k := 7) (u := .bool true) (by rw [List.length_set]) (List.getElem?_set_self hil) (by omega) rfl
      rw [List.set_set] at hT2
      have hT := hT2.later ((Below.refl _ _).alloc (Nat.le_refl _) (.cells #[.int .i64 xn, .bool xd, .int .i64 xc, .int .i64 xh, .string xq, .int .i64 xs, .bool xt, .bool xg] 53))
      have hadd : Calls Try.prog 33 #[.pointer (some ⟨wb, 0, none⟩), .int .i64 5, .int .i64 xh, .string xq, .agg #[.int .i64 xn, .bool xd, .int .i64 xc, .int .i64 xh, .string xq, .int .i64 xs, .bool xt, .bool xg], .int .i64 xc] _ _ := add_any B w0 wb _ _ h _ vh _ hT (by omega) 5 xh xq ⟨xn, xd, xc, xh, xq, xs, xt, xg⟩ xc
      have hi0 : (i : Int) < (all.length : Int) := by omega
      have nga : ga ≠ w2.heap.size := by omega
      have nwb : wb ≠ w2.heap.size := by omega
      have ngw : wb ≠ ga := by omega
      have hB := (Below.refl _ w2).alloc (Nat.le_refl _) (.cells #[.int .i64 xn, .bool xd, .int .i64 xc, .int .i64 xh, .string xq, .int .i64 xs, .bool xt, .bool xg] 53)
      have g0 := (hB.cell (p := ⟨wb, 0, none⟩) (by show wb < _; omega)).trans c0
      have g3 := (hB.cell (p := ⟨ga, i * 8 + 3, none⟩) hgl).trans z3
      have g7 := (hB.cell (p := ⟨ga, i * 8 + 7, none⟩) hgl).trans z7
      have k3 := (hB.frozen (p := ⟨ga, i * 8 + 3, none⟩) hgl).trans f3
      have k7 := (hB.frozen (p := ⟨ga, i * 8 + 7, none⟩) hgl).trans f7
      have hT1' := hT1.later ((Below.refl _ _).alloc (Nat.le_refl _) (.cells #[.int .i64 xn, .bool xd, .int .i64 xc, .int .i64 xh, .string xq, .int .i64 xs, .bool xt, .bool xg] 53))
      obtain ⟨q0, _, _⟩ := hT1'.cells
      obtain ⟨ga3, cap3, e3, _, _, _, hcell3, hfr3⟩ := hT1'.itemAt (x := ⟨xn, xd, xc, 0, xq, xs, xt, xg⟩) (List.getElem?_set_self hil)
      simp only [Value.slice.injEq, Option.some.injEq, Addr.mk.injEq, List.length_set, true_and, and_true] at e3
      obtain ⟨rfl, rfl⟩ := e3
      have q7 := hfr3 (i * 8 + 7)
      have y7 : _ = some (Value.bool xg) := hcell3 7 _ rfl
      have hW0 : w2.cell? ⟨W.heap.size, 0, none⟩ = some (.int .i64 k) := (HB2.out.cell (p := ⟨W.heap.size, 0, none⟩) (by show W.heap.size < _; rw [box_size]; omega)).trans (box_kind _ _ _ _ _ _)
      have nWw : W.heap.size ≠ w2.heap.size := by
        have := HB2.out.size
        rw [box_size] at this
        omega
      have nWg : W.heap.size ≠ ga := by
        obtain ⟨gaW, _, eW, _, hgW, _⟩ := HW.out.itemAt hx
        simp only [Value.slice.injEq, Option.some.injEq, Addr.mk.injEq, true_and, and_true] at eW
        obtain ⟨rfl, _⟩ := eW
        omega
      have s0 : (w2.setCell ⟨ga, i * 8 + 3, none⟩ (.int .i64 0)).cell? ⟨W.heap.size, 0, none⟩ = some (.int .i64 k) := by
        first
        | (simp [go_sem, nWg, hW0, nWg.symm]; done)
        | (rw [cell?_setCell_ne _ _ _ _ (by simp [nWg])]; exact hW0)
        | (rw [World.cell?_setCell_other (by simpa using nWg)]; exact hW0)
      have hs2 : (w2.setCell ⟨ga, i * 8 + 3, none⟩ (.int .i64 0)).heap.size = w2.heap.size := by first | exact World.setCell_size _ _ _ | simp [go_sem] | simp
      have s1 := (((Below.refl _ (w2.setCell ⟨ga, i * 8 + 3, none⟩ (.int .i64 0))).alloc (Nat.le_refl _) (.cells #[.int .i64 xn, .bool xd, .int .i64 xc, .int .i64 xh, .string xq, .int .i64 xs, .bool xt, .bool xg] 53)).cell (p := ⟨W.heap.size, 0, none⟩) (by show W.heap.size < _; have := HB2.out.size; rw [box_size] at this; rw [hs2]; omega)).trans s0
      have HX := Lib.hid hx
      have HG := Lib.hid hg
      have HHO := Lib.hid hxh
      clear Hr hT hT1 hT2 hx hg hho hcell hfr hxh hB hT1' hcell3 hfr3
      go_wp2_with ((go_at_call 33; go_loud (refine hadd.mono ?_); clear hadd; rintro r w10 ⟨rfl, vh', hH'⟩))
      go_end0
      exact ⟨rfl, _, _, _, _, Move.answer all h i _ HX.out HG.out HHO.out, by rw [List.length_set]; exact hH'⟩

end Go.Proofs.Ytgincippgaecfaa.Au
