/-
  Y8: The small world's add: its walk, with what it keeps. No condition but how the world lies.
  Y9: The small world's does: something is sent back. No condition but how the world lies.
  YA: The small world's does: a crash. No condition but how the world lies.
-/
import Derived.Test.YtgincippgaecfaaYO
import Derived.Test.YtgincippgaecfaaYM
import Derived.Deep.RegionHeld3
import Derived.Deep.RegionLaw
import Derived.Deep.AppendLies
import Derived.Deep.DrawnRows
namespace Go.Proofs.Ytgincippgaecfaa.Au
open Go Go.RowKit
attribute [local go_sem ↓] Go.wp_at_zero Go.wp_at_succ

/-- What add leaves, and what it keeps. -/
def AddKept (B : Nat) (w0 : World) (wb : Nat) (nx : Int) (all : List Item) (h : List Ent) (va vh : Value) (W : World) (r : Ending) (W' : World) : Prop := r = .returned (.tuple #[]) ∧ ∃ vh', WS B w0 wb nx all h va vh' W' ∧ ∀ b, b < W.heap.size → b ≠ wb → vh.ownBlock ≠ some b → W'.heap[b]? = W.heap[b]?

set_option maxRecDepth 100000 in
set_option maxHeartbeats 8000000 in
theorem add_kept (B : Nat) (w0 : World) (wb : Nat) (nx : Int) (all : List Item) (h : List Ent) (va vh : Value) (W : World) (H : WS B w0 wb nx all h va vh W) (hl : h.length ≤ 1000) (kind who : Int) (q : ByteArray) (x : Item) (count : Int) :
    Calls Try.prog 33 #[.pointer (some ⟨wb, 0, none⟩), .int .i64 kind, .int .i64 who, .string q, .agg x.cells.toArray, .int .i64 count] W (AddKept B w0 wb nx all (h ++ [about kind who q x count]) va vh W) := by
  obtain ⟨n, d, ct, ho, xq, se, to, go⟩ := x
  have HA := H.later ((Below.refl _ W).alloc (Nat.le_refl _) (.cells #[.int .i64 n, .bool d, .int .i64 ct, .int .i64 ho, .string xq, .int .i64 se, .bool to, .bool go] 53))
  obtain ⟨_, c1, _⟩ := HA.cells
  have hlt := HA.lt
  obtain ⟨i0, hi, hz0, hz1, hz2⟩ := info55'
  have hx1 : h.length + 1 ≤ maxLen := by unfold maxLen; omega
  have hx2 : (h.length + 1) * 56 ≤ 140737488355328 := by omega
  have hone : ∀ u ∈ [Value.int .i64 kind, .int .i64 who, .string q, .int .i64 n, .int .i64 count, .bool d], u.oneCell' = true := by
    intro u hu
    simp at hu
    rcases hu with rfl | rfl | rfl | rfl | rfl | rfl <;> rfl
  have HO := Lib.hid (show ((W.alloc (.cells #[.int .i64 n, .bool d, .int .i64 ct, .int .i64 ho, .string xq, .int .i64 se, .bool to, .bool go] 53)).drew.alloc (.cells #[.int .i64 kind, .int .i64 who, .string q, .int .i64 n, .int .i64 count, .bool d] 55)).ownsRow (wb + 1) 55 6 vh h.length (cellsOf h) from World.ownsRow.alloc (ownsRow_block (B := (W.alloc (.cells #[.int .i64 n, .bool d, .int .i64 ct, .int .i64 ho, .string xq, .int .i64 se, .bool to, .bool go] 53)).drew) HA.hist fun _ _ => rfl) _)
  have hnews : ∀ (j : Nat) (u : Value), [Value.int .i64 kind, .int .i64 who, .string q, .int .i64 n, .int .i64 count, .bool d][j]? = some u → ((W.alloc (.cells #[.int .i64 n, .bool d, .int .i64 ct, .int .i64 ho, .string xq, .int .i64 se, .bool to, .bool go] 53)).drew.alloc (.cells #[.int .i64 kind, .int .i64 who, .string q, .int .i64 n, .int .i64 count, .bool d] 55)).cell? ((⟨W.heap.size + 1, 0, none⟩ : Addr).add j) = some u := by
    have h1 := cells_new (W.alloc (.cells #[.int .i64 n, .bool d, .int .i64 ct, .int .i64 ho, .string xq, .int .i64 se, .bool to, .bool go] 53)).drew [.int .i64 kind, .int .i64 who, .string q, .int .i64 n, .int .i64 count, .bool d] 55
    have h2 : (W.alloc (.cells #[.int .i64 n, .bool d, .int .i64 ct, .int .i64 ho, .string xq, .int .i64 se, .bool to, .bool go] 53)).drew.heap.size = W.heap.size + 1 := by simp
    rw [h2] at h1
    exact h1
  have hb9 : wb + 1 ≤ ((W.alloc (.cells #[.int .i64 n, .bool d, .int .i64 ct, .int .i64 ho, .string xq, .int .i64 se, .bool to, .bool go] 53)).drew.alloc (.cells #[.int .i64 kind, .int .i64 who, .string q, .int .i64 n, .int .i64 count, .bool d] 55)).heap.size := by simp at hlt ⊢; omega
  have hvw : vh.ownBlock ≠ some wb := fun e => by have := (World.ownsRow.lt HA.hist _ e).1; omega
  have HH := Lib.hid HA
  have hf2 := (((Below.refl _ (W.alloc (.cells #[.int .i64 n, .bool d, .int .i64 ct, .int .i64 ho, .string xq, .int .i64 se, .bool to, .bool go] 53))).alloc (Nat.le_refl _) (.cells #[.int .i64 kind, .int .i64 who, .string q, .int .i64 n, .int .i64 count, .bool d] 55)).frozen (p := ⟨wb, 1, none⟩) hlt).trans (HA.frozen 1)
  have hf := HA.frozen 1
  have c2 := (((Below.refl _ (W.alloc (.cells #[.int .i64 n, .bool d, .int .i64 ct, .int .i64 ho, .string xq, .int .i64 se, .bool to, .bool go] 53))).alloc (Nat.le_refl _) (.cells #[.int .i64 kind, .int .i64 who, .string q, .int .i64 n, .int .i64 count, .bool d] 55)).cell (p := ⟨wb, 1, none⟩) hlt).trans c1
  clear H HA
  show Calls Try.prog 33 #[.pointer (some ⟨wb, 0, none⟩), .int .i64 kind, .int .i64 who, .string q, .agg #[.int .i64 n, .bool d, .int .i64 ct, .int .i64 ho, .string xq, .int .i64 se, .bool to, .bool go], .int .i64 count] W (AddKept B w0 wb nx all (h ++ [⟨kind, who, q, n, count, d⟩]) va vh W)
  go_enter Try.func33, Try.ntmps33
  go_wp2
  go_region_law ((refine step_append_lies _ (by rfl) _ _ _ (by rfl) (wb + 1) 55 i0 _ 6 56 Try.underlying23 hi hz0 hz1 hz2 rfl (by omega) vh h.length (cellsOf h) (by rfl) HO.out ⟨W.heap.size + 1, 0, none⟩ 1 1 [.int .i64 kind, .int .i64 who, .string q, .int .i64 n, .int .i64 count, .bool d] (by rfl) rfl hnews hone (by omega) hx1 hx2 hb9 _ rfl ?_; intro g cap9 w9 hown9 hgrow9 hat9 hlt9; have hc9 : w9.frozen? ⟨wb, 1, none⟩ = false := (hgrow9.frozen_far ⟨wb, 1, none⟩ (by simp at hlt ⊢; omega) (Ne.symm hvw)).trans hf2; have hd9 : w9.cell? ⟨wb, 1, none⟩ = some vh := (hgrow9.cell_far ⟨wb, 1, none⟩ (by simp at hlt ⊢; omega) (Ne.symm hvw)).trans c2))
  all_goals go_wp2
  all_goals go_end0
  all_goals exact ⟨rfl, _, HH.out.push ((Grow.drew _ _).trans hgrow9) (by rw [cellsOf_append]; exact hown9) fun g' e => by
    simp only [Value.ownBlock, Option.some.injEq] at e
    subst e
    rcases hat9 with a | a
    · exact .inl a
    · exact .inr (by rw [a]; simp), fun b hb hbw hbo => by
      have q1 := (Go.Proofs.Ytgincippgaecfaa.Au.grown_setJ w9 wb 1 (.slice (some ⟨g, 0, none⟩) (h.length + 1) cap9)).block b (by have := hgrow9.size; simp at this; omega) (fun e => hbw (Option.some.inj e))
      have q2 := hgrow9.block b (by simp; omega) (fun e => hbo e.symm)
      refine q1.trans (q2.trans ?_)
      have q3 := (((Below.refl _ (W.alloc (.cells #[.int .i64 n, .bool d, .int .i64 ct, .int .i64 ho, .string xq, .int .i64 se, .bool to, .bool go] 53))).alloc (Nat.le_refl _) (.cells #[.int .i64 kind, .int .i64 who, .string q, .int .i64 n, .int .i64 count, .bool d] 55))).block b (by simp; omega)
      have q4 := ((Below.refl _ W).alloc (Nat.le_refl _) (.cells #[.int .i64 n, .bool d, .int .i64 ct, .int .i64 ho, .string xq, .int .i64 se, .bool to, .bool go] 53)).block b hb
      exact q3.trans q4⟩

end Go.Proofs.Ytgincippgaecfaa.Au

namespace Go.Proofs.Ytgincippgaecfaa.Au
open Go Go.RowKit
attribute [local go_sem ↓] Go.wp_at_zero Go.wp_at_succ

theorem cell_of_block {w w' : World} {b o : Nat} (h : w'.heap[b]? = w.heap[b]?) : w'.cell? ⟨b, o, none⟩ = w.cell? ⟨b, o, none⟩ := by
  simp [World.cell?, h]
theorem box_flag (W : World) (x : Value) (a b c : Value) (t : TypeId) : (W.alloc (.cells #[a, b, c, x] t)).cell? ⟨W.heap.size, 3, none⟩ = some x := by
  first
  | (simp [go_sem]; done)
  | (simp [World.cell?, World.alloc]; done)
  | (unfold World.cell?; simp [World.alloc]; done)
  | go_wp2

set_option maxRecDepth 100000 in
set_option maxHeartbeats 16000000 in
theorem does_back (B : Nat) (w0 : World) (wb : Nat) (all : List Item) (h : List Ent) (a : Option Addr) (capa : Nat) (vh : Value) (W : World) (H : WS B w0 wb (all.length : Int) all h (.slice a all.length capa) vh W) (hl : h.length ≤ 900) (hla : all.length ≤ 900) (k w n : Int) (f : Bool) (hn1 : -9223372036854775808 ≤ n) (hn2 : n ≤ 9223372036854775807) (hkk : (wrap64 (k.tmod 6 + 6)).tmod 6 = 4) (hC : CountOk all h) :
    Calls Try.prog 19 #[.pointer (some ⟨wb, 0, none⟩), .agg #[.int .i64 k, .int .i64 w, .int .i64 n, .bool f]] W (DoesPost B w0 wb all h) := by
  obtain ⟨v, hv⟩ : ∃ v, (wrap64 (w.tmod 8 + 8)).tmod 8 = v := ⟨_, rfl⟩
  have hv0 := rem8 w
  rw [hv] at hv0
  obtain ⟨hv1, hv2⟩ := hv0
  have HA := H.later ((Below.refl _ W).alloc (Nat.le_refl _) (.cells #[.int .i64 k, .int .i64 w, .int .i64 n, .bool f] 51))
  have hlen : (all.length : Int) ≤ 900 := by omega
  have hpick := fun (m : Int) (h0 : 0 ≤ m) (h9 : m ≤ 9223372036854775807) => pick_any B w0 wb _ all h a capa vh _ HA (by omega) m h0 h9 false
  have HH := Lib.hid HA
  have HW := Lib.hid H
  clear H HA
  by_cases hn : n < 0
  all_goals
    go_enter Try.func19, Try.ntmps19
    go_upto_region 27 with ((go_at_call 34; refine (hpick _ (by omega) (by omega)).mono ?_; clear hpick; rintro r w2 ⟨⟨p, rfl, hp⟩, hb2⟩; have HP := Lib.hid hp; have HB2 := Lib.hid hb2; clear hp hb2))
    rcases HP.out with rfl | ⟨i, x, rfl, hx, hg, hho⟩
    · clear HP
      go_wp2
      go_end0
      exact ⟨rfl, all, h, _, _, Move.nop all h, HH.out.later HB2.out⟩
    · clear HP
      have Hr := HH.out.later HB2.out
      have hil := (List.getElem?_eq_some_iff.1 hx).1
      obtain ⟨c0, _, _⟩ := Hr.cells
      obtain ⟨ga, cap2, e2, hgw, hgl, hcap, hcell, hfr⟩ := Hr.itemAt hx
      simp only [Value.slice.injEq] at e2
      obtain ⟨rfl, _, rfl⟩ := e2
      obtain ⟨xn, xd, xc, xh, xq, xs, xt, xg⟩ := x
      simp only at hg hho
      have hxh : xh ≠ 0 := by simpa using hho
      have z0 : w2.cell? ⟨ga, i * 8, none⟩ = some (.int .i64 xn) := hcell 0 _ rfl
      have z1 : w2.cell? ⟨ga, i * 8 + 1, none⟩ = some (.bool xd) := hcell 1 _ rfl
      have z2 : w2.cell? ⟨ga, i * 8 + 2, none⟩ = some (.int .i64 xc) := hcell 2 _ rfl
      have z3 : w2.cell? ⟨ga, i * 8 + 3, none⟩ = some (.int .i64 xh) := hcell 3 _ rfl
      have z4 : w2.cell? ⟨ga, i * 8 + 4, none⟩ = some (.string xq) := hcell 4 _ rfl
      have z5 : w2.cell? ⟨ga, i * 8 + 5, none⟩ = some (.int .i64 xs) := hcell 5 _ rfl
      have z6 : w2.cell? ⟨ga, i * 8 + 6, none⟩ = some (.bool xt) := hcell 6 _ rfl
      have z7 : w2.cell? ⟨ga, i * 8 + 7, none⟩ = some (.bool xg) := hcell 7 _ rfl
      have f3 := hfr (i * 8 + 3)
      have f7 := hfr (i * 8 + 7)
      have hT1 := Hr.turn (x' := ⟨xn, xd, xc, 0, xq, xs, xt, xg⟩) (k := 3) (u := .int .i64 0) rfl hx (by omega) rfl
      have hT := hT1.later ((Below.refl _ _).alloc (Nat.le_refl _) (.cells #[.int .i64 xn, .bool xd, .int .i64 xc, .int .i64 xh, .string xq, .int .i64 xs, .bool xt, .bool xg] 53))
      have hadd : Calls Try.prog 33 #[.pointer (some ⟨wb, 0, none⟩), .int .i64 6, .int .i64 xh, .string xq, .agg #[.int .i64 xn, .bool xd, .int .i64 xc, .int .i64 xh, .string xq, .int .i64 xs, .bool xt, .bool xg], .int .i64 xc] _ _ := add_kept B w0 wb _ _ h _ vh _ hT (by omega) 6 xh xq ⟨xn, xd, xc, xh, xq, xs, xt, xg⟩ xc
      have hi0 : (i : Int) < (all.length : Int) := by omega
      have nga : ga ≠ w2.heap.size := by omega
      have nwb : wb ≠ w2.heap.size := by omega
      have ngw : wb ≠ ga := by omega
      have hB := (Below.refl _ w2).alloc (Nat.le_refl _) (.cells #[.int .i64 xn, .bool xd, .int .i64 xc, .int .i64 xh, .string xq, .int .i64 xs, .bool xt, .bool xg] 53)
      have g0 := (hB.cell (p := ⟨wb, 0, none⟩) (by show wb < _; omega)).trans c0
      have g3 := (hB.cell (p := ⟨ga, i * 8 + 3, none⟩) hgl).trans z3
      have g7 := (hB.cell (p := ⟨ga, i * 8 + 7, none⟩) hgl).trans z7
      have k3 := (hB.frozen (p := ⟨ga, i * 8 + 3, none⟩) hgl).trans f3
      have k7 := (hB.frozen (p := ⟨ga, i * 8 + 7, none⟩) hgl).trans f7
      have hT1' := hT1.later ((Below.refl _ _).alloc (Nat.le_refl _) (.cells #[.int .i64 xn, .bool xd, .int .i64 xc, .int .i64 xh, .string xq, .int .i64 xs, .bool xt, .bool xg] 53))
      obtain ⟨q0, _, _⟩ := hT1'.cells
      obtain ⟨ga3, cap3, e3, _, _, _, hcell3, hfr3⟩ := hT1'.itemAt (x := ⟨xn, xd, xc, 0, xq, xs, xt, xg⟩) (List.getElem?_set_self hil)
      simp only [Value.slice.injEq, Option.some.injEq, Addr.mk.injEq, List.length_set, true_and, and_true] at e3
      obtain ⟨rfl, rfl⟩ := e3
      have q7 := hfr3 (i * 8 + 7)
      have y7 : _ = some (Value.bool xg) := hcell3 7 _ rfl
      have hW0 : w2.cell? ⟨W.heap.size, 0, none⟩ = some (.int .i64 k) := (HB2.out.cell (p := ⟨W.heap.size, 0, none⟩) (by show W.heap.size < _; rw [box_size]; omega)).trans (box_kind _ _ _ _ _ _)
      have nWw : W.heap.size ≠ w2.heap.size := by
        have := HB2.out.size
        rw [box_size] at this
        omega
      have nWg : W.heap.size ≠ ga := by
        obtain ⟨gaW, _, eW, _, hgW, _⟩ := HW.out.itemAt hx
        simp only [Value.slice.injEq, Option.some.injEq, Addr.mk.injEq, true_and, and_true] at eW
        obtain ⟨rfl, _⟩ := eW
        omega
      have s0 : (w2.setCell ⟨ga, i * 8 + 3, none⟩ (.int .i64 0)).cell? ⟨W.heap.size, 0, none⟩ = some (.int .i64 k) := by
        first
        | (simp [go_sem, nWg, hW0, nWg.symm]; done)
        | (rw [cell?_setCell_ne _ _ _ _ (by simp [nWg])]; exact hW0)
        | (rw [World.cell?_setCell_other (by simpa using nWg)]; exact hW0)
      have hs2 : (w2.setCell ⟨ga, i * 8 + 3, none⟩ (.int .i64 0)).heap.size = w2.heap.size := by first | exact World.setCell_size _ _ _ | simp [go_sem] | simp
      have s1 := (((Below.refl _ (w2.setCell ⟨ga, i * 8 + 3, none⟩ (.int .i64 0))).alloc (Nat.le_refl _) (.cells #[.int .i64 xn, .bool xd, .int .i64 xc, .int .i64 xh, .string xq, .int .i64 xs, .bool xt, .bool xg] 53)).cell (p := ⟨W.heap.size, 0, none⟩) (by show W.heap.size < _; have := HB2.out.size; rw [box_size] at this; rw [hs2]; omega)).trans s0
      have HX := Lib.hid hx
      have HG := Lib.hid hg
      have HHO := Lib.hid hxh
      clear Hr hT hT1 hx hg hho hcell hfr hxh hB hT1' hcell3 hfr3
      have hcn := hC _ (List.mem_of_getElem? HX.out)
      simp only at hcn
      have hvo : vh.ownBlock ≠ some W.heap.size := fun e => by have := (World.ownsRow.lt HW.out.hist _ e).2; omega
      have fl0 : w2.cell? ⟨W.heap.size, 3, none⟩ = some (.bool f) := (HB2.out.cell (p := ⟨W.heap.size, 3, none⟩) (by show W.heap.size < _; rw [box_size]; omega)).trans (box_flag _ _ _ _ _ _)
      have s3 : (w2.setCell ⟨ga, i * 8 + 3, none⟩ (.int .i64 0)).cell? ⟨W.heap.size, 3, none⟩ = some (.bool f) := by
        first
        | (simp [go_sem, nWg, fl0, nWg.symm]; done)
      have s4 := (((Below.refl _ (w2.setCell ⟨ga, i * 8 + 3, none⟩ (.int .i64 0))).alloc (Nat.le_refl _) (.cells #[.int .i64 xn, .bool xd, .int .i64 xc, .int .i64 xh, .string xq, .int .i64 xs, .bool xt, .bool xg] 53)).cell (p := ⟨W.heap.size, 3, none⟩) (by show W.heap.size < _; have := HB2.out.size; rw [box_size] at this; rw [hs2]; omega)).trans s3
      have hlt9 : W.heap.size < ((w2.setCell ⟨ga, i * 8 + 3, none⟩ (.int .i64 0)).alloc (.cells #[.int .i64 xn, .bool xd, .int .i64 xc, .int .i64 xh, .string xq, .int .i64 xs, .bool xt, .bool xg] 53)).heap.size := by have := HB2.out.size; rw [box_size] at this ⊢; rw [hs2]; omega
      have nWb : W.heap.size ≠ wb := by have := HW.out.lt; omega
      cases f with
      | false =>
        go_wp2_with ((go_at_call 33; go_loud (refine hadd.mono ?_); clear hadd; rintro r w10 ⟨rfl, vh', hH', hK⟩; have fl := (cell_of_block (o := 3) (hK _ hlt9 nWb hvo)).trans s4; clear hK; obtain ⟨p0, _, _⟩ := hH'.cells; obtain ⟨ga4, cap4, e4, _, _, _, hcell4, hfr4⟩ := hH'.itemAt (x := ⟨xn, xd, xc, 0, xq, xs, xt, xg⟩) (List.getElem?_set_self hil); simp only [Value.slice.injEq, Option.some.injEq, Addr.mk.injEq, List.length_set, true_and, and_true] at e4; obtain ⟨rfl, rfl⟩ := e4; have y2 : w10.cell? ⟨ga, i * 8 + 2, none⟩ = some (.int .i64 xc) := hcell4 2 _ rfl; have y4 : w10.cell? ⟨ga, i * 8 + 4, none⟩ = some (.string xq) := hcell4 4 _ rfl; have fr2 := hfr4 (i * 8 + 2); have fr4 := hfr4 (i * 8 + 4); have HH' := Lib.hid hH'; clear hH' hcell4 hfr4))
        go_end0
        exact ⟨rfl, _, _, _, _, Move.back all h i _ false HX.out HG.out HHO.out, by rw [List.length_set]; exact HH'.out⟩
      | true =>
        by_cases hq : 2 ≤ xc + 1
        · go_wp2_with ((go_at_call 33; go_loud (refine hadd.mono ?_); clear hadd; rintro r w10 ⟨rfl, vh', hH', hK⟩; have fl := (cell_of_block (o := 3) (hK _ hlt9 nWb hvo)).trans s4; clear hK; obtain ⟨p0, _, _⟩ := hH'.cells; obtain ⟨ga4, cap4, e4, _, _, _, hcell4, hfr4⟩ := hH'.itemAt (x := ⟨xn, xd, xc, 0, xq, xs, xt, xg⟩) (List.getElem?_set_self hil); simp only [Value.slice.injEq, Option.some.injEq, Addr.mk.injEq, List.length_set, true_and, and_true] at e4; obtain ⟨rfl, rfl⟩ := e4; have y2 : w10.cell? ⟨ga, i * 8 + 2, none⟩ = some (.int .i64 xc) := hcell4 2 _ rfl; have y4 : w10.cell? ⟨ga, i * 8 + 4, none⟩ = some (.string xq) := hcell4 4 _ rfl; have fr2 := hfr4 (i * 8 + 2); have fr4 := hfr4 (i * 8 + 4); have HH' := Lib.hid hH'; clear hH' hcell4 hfr4))
          go_end0
          have T1 := HH'.out.turn (i := i) (x := ⟨xn, xd, xc, 0, xq, xs, xt, xg⟩) (x' := ⟨xn, xd, xc + 1, 0, xq, xs, xt, xg⟩) (k := 2) (u := .int .i64 (xc + 1)) (by rw [List.length_set]) (List.getElem?_set_self hil) (by omega) rfl
          rw [List.set_set] at T1
          have T2 := T1.turn (i := i) (x := ⟨xn, xd, xc + 1, 0, xq, xs, xt, xg⟩) (x' := ⟨xn, xd, xc + 1, 0, qD, xs, xt, xg⟩) (k := 4) (u := .string qD) (by rw [List.length_set]) (List.getElem?_set_self hil) (by omega) rfl
          rw [List.set_set] at T2
          have hb : bumped ⟨xn, xd, xc, xh, xq, xs, xt, xg⟩ true = ⟨xn, xd, xc + 1, 0, qD, xs, xt, xg⟩ := by simp [bumped, hq]
          exact ⟨rfl, _, _, _, _, Move.back all h i _ true HX.out HG.out HHO.out, by rw [List.length_set, hb]; exact T2⟩
        · go_wp2_with ((go_at_call 33; go_loud (refine hadd.mono ?_); clear hadd; rintro r w10 ⟨rfl, vh', hH', hK⟩; have fl := (cell_of_block (o := 3) (hK _ hlt9 nWb hvo)).trans s4; clear hK; obtain ⟨p0, _, _⟩ := hH'.cells; obtain ⟨ga4, cap4, e4, _, _, _, hcell4, hfr4⟩ := hH'.itemAt (x := ⟨xn, xd, xc, 0, xq, xs, xt, xg⟩) (List.getElem?_set_self hil); simp only [Value.slice.injEq, Option.some.injEq, Addr.mk.injEq, List.length_set, true_and, and_true] at e4; obtain ⟨rfl, rfl⟩ := e4; have y2 : w10.cell? ⟨ga, i * 8 + 2, none⟩ = some (.int .i64 xc) := hcell4 2 _ rfl; have y4 : w10.cell? ⟨ga, i * 8 + 4, none⟩ = some (.string xq) := hcell4 4 _ rfl; have fr2 := hfr4 (i * 8 + 2); have fr4 := hfr4 (i * 8 + 4); have HH' := Lib.hid hH'; clear hH' hcell4 hfr4))
          go_end0
          have T1 := HH'.out.turn (i := i) (x := ⟨xn, xd, xc, 0, xq, xs, xt, xg⟩) (x' := ⟨xn, xd, xc + 1, 0, xq, xs, xt, xg⟩) (k := 2) (u := .int .i64 (xc + 1)) (by rw [List.length_set]) (List.getElem?_set_self hil) (by omega) rfl
          rw [List.set_set] at T1
          have hb : bumped ⟨xn, xd, xc, xh, xq, xs, xt, xg⟩ true = ⟨xn, xd, xc + 1, 0, xq, xs, xt, xg⟩ := by simp [bumped]; omega
          exact ⟨rfl, _, _, _, _, Move.back all h i _ true HX.out HG.out HHO.out, by rw [List.length_set, hb]; exact T1⟩

end Go.Proofs.Ytgincippgaecfaa.Au

namespace Go.Proofs.Ytgincippgaecfaa.Au
open Go Go.RowKit
attribute [local go_sem ↓] Go.wp_at_zero Go.wp_at_succ

/-- The first j items are crashed. -/
def crashedTo (j : Nat) (all : List Item) : List Item := (all.take j).map crashed ++ all.drop j

theorem crashedTo_length {j : Nat} {all : List Item} : (crashedTo j all).length = all.length := by
  simp only [crashedTo, List.length_append, List.length_map, List.length_take, List.length_drop]; omega
theorem crashedTo_zero (all : List Item) : crashedTo 0 all = all := by simp [crashedTo]
theorem crashedTo_all (all : List Item) : crashedTo all.length all = all.map crashed := by simp [crashedTo]
theorem crashedTo_at {j : Nat} {all : List Item} (hj : j < all.length) : (crashedTo j all)[j]? = all[j]? := by
  have hl : ((all.take j).map crashed).length = j := by simp; omega
  unfold crashedTo
  rw [List.getElem?_append_right (by omega), hl, Nat.sub_self, List.getElem?_drop, Nat.add_zero]
theorem crashedTo_next {j : Nat} {all : List Item} {x : Item} (hx : all[j]? = some x) : (crashedTo j all).set j (crashed x) = crashedTo (j + 1) all := by
  have hj := (List.getElem?_eq_some_iff.1 hx).1
  have hl : ((all.take j).map crashed).length = j := by simp; omega
  unfold crashedTo
  rw [List.set_append_right _ _ (by omega), hl, Nat.sub_self, List.take_add_one, hx]
  have hd : all.drop j = x :: all.drop (j + 1) := by
    rw [List.drop_eq_getElem_cons hj]
    have := (List.getElem?_eq_some_iff.1 hx).2
    rw [this]
  rw [hd]
  simp

set_option maxRecDepth 100000 in
set_option maxHeartbeats 16000000 in
theorem does_crash (B : Nat) (w0 : World) (wb : Nat) (all : List Item) (h : List Ent) (a : Option Addr) (capa : Nat) (vh : Value) (W : World) (H : WS B w0 wb (all.length : Int) all h (.slice a all.length capa) vh W) (hl : h.length ≤ 900) (hla : all.length ≤ 900) (k w n : Int) (f : Bool) (hn1 : -9223372036854775808 ≤ n) (hn2 : n ≤ 9223372036854775807) (hkk : (wrap64 (k.tmod 6 + 6)).tmod 6 = 5) :
    Calls Try.prog 19 #[.pointer (some ⟨wb, 0, none⟩), .agg #[.int .i64 k, .int .i64 w, .int .i64 n, .bool f]] W (DoesPost B w0 wb all h) := by
  obtain ⟨v, hv⟩ : ∃ v, (wrap64 (w.tmod 8 + 8)).tmod 8 = v := ⟨_, rfl⟩
  have hv0 := rem8 w
  rw [hv] at hv0
  obtain ⟨hv1, hv2⟩ := hv0
  have HA := H.later ((Below.refl _ W).alloc (Nat.le_refl _) (.cells #[.int .i64 k, .int .i64 w, .int .i64 n, .bool f] 51))
  have hlen : (all.length : Int) ≤ 900 := by omega
  obtain ⟨W1, hW1⟩ : ∃ W1, W.alloc (.cells #[.int .i64 k, .int .i64 w, .int .i64 n, .bool f] 51) = W1 := ⟨_, rfl⟩
  obtain ⟨c0, c1, _⟩ := HA.cells
  obtain ⟨i0, hi, hz0, hz1, hz2⟩ := info55'
  have hx1 : h.length + 1 ≤ maxLen := by unfold maxLen; omega
  have hx2 : (h.length + 1) * 56 ≤ 140737488355328 := by omega
  have hone : ∀ u ∈ [Value.int .i64 7, .int .i64 0, .string ⟨#[]⟩, .int .i64 0, .int .i64 0, .bool false], u.oneCell' = true := by
    intro u hu
    simp at hu
    rcases hu with rfl | rfl | rfl | rfl | rfl | rfl <;> rfl
  rw [hW1] at HA c0 c1
  have HO := Lib.hid (show (W1.alloc (.cells #[.int .i64 7, .int .i64 0, .string ⟨#[]⟩, .int .i64 0, .int .i64 0, .bool false] 55)).ownsRow (wb + 1) 55 6 vh h.length (cellsOf h) from World.ownsRow.alloc HA.hist _)
  have hnews := cells_new W1 [Value.int .i64 7, .int .i64 0, .string ⟨#[]⟩, .int .i64 0, .int .i64 0, .bool false] 55
  have hlt := HA.lt
  have hb9 : wb + 1 ≤ (W1.alloc (.cells #[.int .i64 7, .int .i64 0, .string ⟨#[]⟩, .int .i64 0, .int .i64 0, .bool false] 55)).heap.size := by simp at hlt ⊢; omega
  have hvw : vh.ownBlock ≠ some wb := fun e => by have := (World.ownsRow.lt HA.hist _ e).1; omega
  have hf2 := (((Below.refl _ W1).alloc (Nat.le_refl _) (.cells #[.int .i64 7, .int .i64 0, .string ⟨#[]⟩, .int .i64 0, .int .i64 0, .bool false] 55)).frozen (p := ⟨wb, 1, none⟩) hlt).trans (HA.frozen 1)
  have c2 := (((Below.refl _ W1).alloc (Nat.le_refl _) (.cells #[.int .i64 7, .int .i64 0, .string ⟨#[]⟩, .int .i64 0, .int .i64 0, .bool false] 55)).cell (p := ⟨wb, 1, none⟩) hlt).trans c1
  have HH := Lib.hid HA
  have HW := Lib.hid hW1
  clear H HA hW1
  by_cases hn : n < 0
  all_goals
    go_enter Try.func19, Try.ntmps19
    go_upto_region 39 with (fail)
    rw [HW.out]
    go_upto_region 40 with ((at_builtin; refine wpList_append_lies _ rfl (.tmp 224) (.tmp 226) _ rfl (wb + 1) 55 i0 _ 6 56 Try.underlying23 hi hz0 hz1 hz2 rfl (by omega) vh h.length (cellsOf h) rfl HO.out ⟨W1.heap.size, 0, none⟩ 1 1 [.int .i64 7, .int .i64 0, .string ⟨#[]⟩, .int .i64 0, .int .i64 0, .bool false] rfl rfl hnews hone (by omega) hx1 hx2 hb9 _ rfl ?_; intro g cap9 w9 hown9 hgrow9 hat9 hlt9; have hc9 : w9.frozen? ⟨wb, 1, none⟩ = false := (hgrow9.frozen_far ⟨wb, 1, none⟩ (by simp at hlt ⊢; omega) (Ne.symm hvw)).trans hf2; have hd9 : w9.cell? ⟨wb, 1, none⟩ = some vh := (hgrow9.cell_far ⟨wb, 1, none⟩ (by simp at hlt ⊢; omega) (Ne.symm hvw)).trans c2))
    have hP := HH.out.push (e := crashEnt) hgrow9 (by rw [cellsOf_append]; exact hown9) (fun g' e => by
      simp only [Value.ownBlock, Option.some.injEq] at e
      subst e
      rcases hat9 with a | a
      · exact .inl a
      · exact .inr (by rw [a]; simp))
    obtain ⟨W2, hW2⟩ : ∃ W2, w9.setCell ⟨wb, 1, none⟩ (.slice (some ⟨g, 0, none⟩) (h.length + 1) cap9) = W2 := ⟨_, rfl⟩
    rw [hW2] at hP ⊢
    have HP := Lib.hid hP
    clear hP hc9 hd9 hown9 hgrow9 hat9 hlt9 hf2 hnews HO c0 c1 c2 hb9 hlt
    go_wp2
    go_loopw [12] (fun i wr => ∃ j : Nat, i = .int .i64 j ∧ j ≤ all.length ∧ WS B w0 wb (all.length : Int) (crashedTo j all) (h ++ [crashEnt]) (.slice a all.length capa) (.slice (some ⟨g, 0, none⟩) (h.length + 1) cap9) wr) (fun i _ => all.length - (intOf i).toNat)
    case atStart => exact ⟨0, rfl, Nat.zero_le _, by rw [crashedTo_zero]; exact HP.out⟩
    case round =>
      obtain ⟨j, rfl, hj, Hr⟩ := hrel
      obtain ⟨c0, _, _⟩ := Hr.cells
      have HR := Lib.hid Hr
      by_cases hlt : j < all.length
      · obtain ⟨x, hx⟩ : ∃ x, all[j]? = some x := ⟨_, List.getElem?_eq_getElem hlt⟩
        have hx' := (crashedTo_at hlt).trans hx
        obtain ⟨ga, cap2, e2, hgw, hgl, hcap, hcell, hfr⟩ := Hr.itemAt hx'
        rw [crashedTo_length] at e2 hcap
        simp only [Value.slice.injEq] at e2
        obtain ⟨rfl, _, rfl⟩ := e2
        have hnx := crashedTo_next hx
        obtain ⟨xn, xd, xc, xh, xq, xs, xt, xg⟩ := x
        have d3 : wr.cell? ⟨ga, j * 8 + 3, none⟩ = some (.int .i64 xh) := hcell 3 _ rfl
        have f3 := hfr (j * 8 + 3)
        have hT := Hr.turn (x' := ⟨xn, xd, xc, 0, xq, xs, xt, xg⟩) (k := 3) (u := .int .i64 0) (by rw [crashedTo_length]) hx' (by omega) rfl
        have hil : j < (crashedTo j all).length := by rw [crashedTo_length]; exact hlt
        have hxT : ((crashedTo j all).set j ⟨xn, xd, xc, 0, xq, xs, xt, xg⟩)[j]? = some ⟨xn, xd, xc, 0, xq, xs, xt, xg⟩ := List.getElem?_set_self hil
        obtain ⟨W3, hW3⟩ : ∃ W3, wr.setCell ⟨ga, j * 8 + 3, none⟩ (.int .i64 0) = W3 := ⟨_, rfl⟩
        have hjl : (j : Int) < (all.length : Int) := by omega
        clear hcell hfr Hr
        go_upto_region 44 with (fail)
        rw [hW3] at hT
        obtain ⟨q0, _, _⟩ := hT.cells
        obtain ⟨ga3, cap3, e3, _, _, _, hcell3, hfr3⟩ := hT.itemAt hxT
        simp only [Value.slice.injEq, Option.some.injEq, Addr.mk.injEq, List.length_set, crashedTo_length, true_and, and_true] at e3
        obtain ⟨rfl, rfl⟩ := e3
        have z1 : W3.cell? ⟨ga, j * 8 + 1, none⟩ = some (.bool xd) := hcell3 1 _ rfl
        have z6 : W3.cell? ⟨ga, j * 8 + 6, none⟩ = some (.bool xt) := hcell3 6 _ rfl
        have z7 : W3.cell? ⟨ga, j * 8 + 7, none⟩ = some (.bool xg) := hcell3 7 _ rfl
        have f7 := hfr3 (j * 8 + 7)
        have hT2 := hT.turn (i := j) (x := ⟨xn, xd, xc, 0, xq, xs, xt, xg⟩) (x' := ⟨xn, xd, xc, 0, xq, xs, xt, true⟩) (k := 7) (u := .bool true) (by rw [List.length_set, crashedTo_length]) hxT (by omega) rfl
        rw [List.set_set] at hT2
        have HT := Lib.hid hT
        have HT2 := Lib.hid hT2
        have HNX := Lib.hid hnx
        clear hT hT2 hcell3 hfr3 hnx hxT hx hx' c0 d3 f3 hW3
        cases xd <;> cases xt
        all_goals
          go_wp2
        · refine ⟨⟨j + 1, by go_num, by omega, ?_⟩, by simp [intOf]; omega⟩
          rw [← HNX.out]
          have := HT.out
          simpa [crashed] using this
        · refine ⟨⟨j + 1, by go_num, by omega, ?_⟩, by simp [intOf]; omega⟩
          rw [← HNX.out]
          have := HT2.out
          simpa [crashed] using this
        · refine ⟨⟨j + 1, by go_num, by omega, ?_⟩, by simp [intOf]; omega⟩
          rw [← HNX.out]
          have := HT.out
          simpa [crashed] using this
        · refine ⟨⟨j + 1, by go_num, by omega, ?_⟩, by simp [intOf]; omega⟩
          rw [← HNX.out]
          have := HT.out
          simpa [crashed] using this
      · obtain rfl : j = all.length := by omega
        clear Hr
        go_wp2
        go_end0
        exact ⟨rfl, _, _, _, _, Move.crash all h, by rw [List.length_map, ← crashedTo_all]; exact HR.out⟩

end Go.Proofs.Ytgincippgaecfaa.Au
