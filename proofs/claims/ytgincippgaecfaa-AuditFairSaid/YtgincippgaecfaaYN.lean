/-
  Y2: The small world's add: its walk. No condition but how the world lies.
  Y3: The small world's pick: its walk. No condition but how the world lies.
  Y4: The small world's does: something is sent. No condition but how the world lies.
-/
import Derived.Test.YtgincippgaecfaaYM
import Derived.Deep.RegionHeld3
import Derived.Deep.RegionLaw
import Derived.Deep.AppendLies
import Derived.Deep.DrawnRows
import Derived.Test.YtgincippgaecfaaL3
namespace Go.Proofs.Ytgincippgaecfaa.Au
open Go Go.RowKit
attribute [local go_sem ↓] Go.wp_at_zero Go.wp_at_succ

/-- What add leaves. -/
def AddPost (B : Nat) (w0 : World) (wb : Nat) (nx : Int) (all : List Item) (h : List Ent) (va : Value) (r : Ending) (W' : World) : Prop := r = .returned (.tuple #[]) ∧ ∃ vh', WS B w0 wb nx all h va vh' W'

set_option maxRecDepth 100000 in
set_option maxHeartbeats 8000000 in
theorem add_any (B : Nat) (w0 : World) (wb : Nat) (nx : Int) (all : List Item) (h : List Ent) (va vh : Value) (W : World) (H : WS B w0 wb nx all h va vh W) (hl : h.length ≤ 1000) (kind who : Int) (q : ByteArray) (x : Item) (count : Int) :
    Calls Try.prog 33 #[.pointer (some ⟨wb, 0, none⟩), .int .i64 kind, .int .i64 who, .string q, .agg x.cells.toArray, .int .i64 count] W (AddPost B w0 wb nx all (h ++ [about kind who q x count]) va) := by
  obtain ⟨n, d, ct, ho, xq, se, to, go⟩ := x
  have HA := H.later ((Below.refl _ W).alloc (Nat.le_refl _) (.cells #[.int .i64 n, .bool d, .int .i64 ct, .int .i64 ho, .string xq, .int .i64 se, .bool to, .bool go] 53))
  obtain ⟨_, c1, _⟩ := HA.cells
  have hlt := HA.lt
  obtain ⟨i0, hi, hz0, hz1, hz2⟩ := info55'
  have hx1 : h.length + 1 ≤ maxLen := by unfold maxLen; omega
  have hx2 : (h.length + 1) * 56 ≤ 140737488355328 := by omega
  have hone : ∀ u ∈ [Value.int .i64 kind, .int .i64 who, .string q, .int .i64 n, .int .i64 count, .bool d], u.oneCell' = true := by
    intro u hu
    simp at hu
    rcases hu with rfl | rfl | rfl | rfl | rfl | rfl <;> rfl
  have HO := Lib.hid (show ((W.alloc (.cells #[.int .i64 n, .bool d, .int .i64 ct, .int .i64 ho, .string xq, .int .i64 se, .bool to, .bool go] 53)).drew.alloc (.cells #[.int .i64 kind, .int .i64 who, .string q, .int .i64 n, .int .i64 count, .bool d] 55)).ownsRow (wb + 1) 55 6 vh h.length (cellsOf h) from World.ownsRow.alloc (ownsRow_block (B := (W.alloc (.cells #[.int .i64 n, .bool d, .int .i64 ct, .int .i64 ho, .string xq, .int .i64 se, .bool to, .bool go] 53)).drew) HA.hist fun _ _ => rfl) _)
  have hnews : ∀ (j : Nat) (u : Value), [Value.int .i64 kind, .int .i64 who, .string q, .int .i64 n, .int .i64 count, .bool d][j]? = some u → ((W.alloc (.cells #[.int .i64 n, .bool d, .int .i64 ct, .int .i64 ho, .string xq, .int .i64 se, .bool to, .bool go] 53)).drew.alloc (.cells #[.int .i64 kind, .int .i64 who, .string q, .int .i64 n, .int .i64 count, .bool d] 55)).cell? ((⟨W.heap.size + 1, 0, none⟩ : Addr).add j) = some u := by
    have h1 := cells_new (W.alloc (.cells #[.int .i64 n, .bool d, .int .i64 ct, .int .i64 ho, .string xq, .int .i64 se, .bool to, .bool go] 53)).drew [.int .i64 kind, .int .i64 who, .string q, .int .i64 n, .int .i64 count, .bool d] 55
    have h2 : (W.alloc (.cells #[.int .i64 n, .bool d, .int .i64 ct, .int .i64 ho, .string xq, .int .i64 se, .bool to, .bool go] 53)).drew.heap.size = W.heap.size + 1 := by simp
    rw [h2] at h1
    exact h1
  have hb9 : wb + 1 ≤ ((W.alloc (.cells #[.int .i64 n, .bool d, .int .i64 ct, .int .i64 ho, .string xq, .int .i64 se, .bool to, .bool go] 53)).drew.alloc (.cells #[.int .i64 kind, .int .i64 who, .string q, .int .i64 n, .int .i64 count, .bool d] 55)).heap.size := by simp at hlt ⊢; omega
  have hvw : vh.ownBlock ≠ some wb := fun e => by have := (World.ownsRow.lt HA.hist _ e).1; omega
  have HH := Lib.hid HA
  have hf2 := (((Below.refl _ (W.alloc (.cells #[.int .i64 n, .bool d, .int .i64 ct, .int .i64 ho, .string xq, .int .i64 se, .bool to, .bool go] 53))).alloc (Nat.le_refl _) (.cells #[.int .i64 kind, .int .i64 who, .string q, .int .i64 n, .int .i64 count, .bool d] 55)).frozen (p := ⟨wb, 1, none⟩) hlt).trans (HA.frozen 1)
  have hf := HA.frozen 1
  have c2 := (((Below.refl _ (W.alloc (.cells #[.int .i64 n, .bool d, .int .i64 ct, .int .i64 ho, .string xq, .int .i64 se, .bool to, .bool go] 53))).alloc (Nat.le_refl _) (.cells #[.int .i64 kind, .int .i64 who, .string q, .int .i64 n, .int .i64 count, .bool d] 55)).cell (p := ⟨wb, 1, none⟩) hlt).trans c1
  clear H HA
  show Calls Try.prog 33 #[.pointer (some ⟨wb, 0, none⟩), .int .i64 kind, .int .i64 who, .string q, .agg #[.int .i64 n, .bool d, .int .i64 ct, .int .i64 ho, .string xq, .int .i64 se, .bool to, .bool go], .int .i64 count] W (AddPost B w0 wb nx all (h ++ [⟨kind, who, q, n, count, d⟩]) va)
  go_enter Try.func33, Try.ntmps33
  go_wp2
  go_region_law ((refine step_append_lies _ (by rfl) _ _ _ (by rfl) (wb + 1) 55 i0 _ 6 56 Try.underlying23 hi hz0 hz1 hz2 rfl (by omega) vh h.length (cellsOf h) (by rfl) HO.out ⟨W.heap.size + 1, 0, none⟩ 1 1 [.int .i64 kind, .int .i64 who, .string q, .int .i64 n, .int .i64 count, .bool d] (by rfl) rfl hnews hone (by omega) hx1 hx2 hb9 _ rfl ?_; intro g cap9 w9 hown9 hgrow9 hat9 hlt9; have hc9 : w9.frozen? ⟨wb, 1, none⟩ = false := (hgrow9.frozen_far ⟨wb, 1, none⟩ (by simp at hlt ⊢; omega) (Ne.symm hvw)).trans hf2; have hd9 : w9.cell? ⟨wb, 1, none⟩ = some vh := (hgrow9.cell_far ⟨wb, 1, none⟩ (by simp at hlt ⊢; omega) (Ne.symm hvw)).trans c2))
  all_goals go_wp2
  all_goals go_end0
  all_goals exact ⟨rfl, _, HH.out.push ((Grow.drew _ _).trans hgrow9) (by rw [cellsOf_append]; exact hown9) fun g' e => by
    simp only [Value.ownBlock, Option.some.injEq] at e
    subst e
    rcases hat9 with a | a
    · exact .inl a
    · exact .inr (by rw [a]; simp)⟩

end Go.Proofs.Ytgincippgaecfaa.Au

namespace Go.Proofs.Ytgincippgaecfaa.Au
open Go Go.RowKit

/-- A message that nobody has (free), or somebody has. -/
def Picks (all : List Item) (free : Bool) (p : Int) : Prop := ∃ (i : Nat) (x : Item), p = (i : Int) ∧ all[i]? = some x ∧ x.gone = false ∧ decide (x.holder = 0) = free
def PickPost (all : List Item) (free : Bool) (W : World) (r : Ending) (W' : World) : Prop := (∃ p : Int, r = .returned (.int .i64 p) ∧ (p = -1 ∨ Picks all free p)) ∧ Below W.heap.size W W'

theorem WS.form {B : Nat} {w0 W : World} {wb : Nat} {nx : Int} {all : List Item} {h : List Ent} {va vh : Value} (H : WS B w0 wb nx all h va vh W) : ∃ a cap, va = .slice a all.length cap := by
  rcases H.items.2 with ⟨h0, h1⟩ | ⟨g, cap, cur, e, _⟩
  · exact ⟨none, 0, by rw [h0, h1]⟩
  · exact ⟨_, _, e⟩
theorem info3y : ∃ i0, Try.prog.info? 3 = some i0 ∧ i0.zero = some (.int .i64 0) ∧ i0.size = 1 ∧ i0.bytes = 8 := info_parts (by kernel_rfl)

set_option maxRecDepth 100000 in
set_option maxHeartbeats 8000000 in
theorem pick_any (B : Nat) (w0 : World) (wb : Nat) (nx : Int) (all : List Item) (h : List Ent) (a : Option Addr) (capa : Nat) (vh : Value) (W : World) (H : WS B w0 wb nx all h (.slice a all.length capa) vh W) (hl : all.length ≤ 1000) (n : Int) (h0 : 0 ≤ n) (h9 : n ≤ 9223372036854775807) (free : Bool) :
    Calls Try.prog 34 #[.pointer (some ⟨wb, 0, none⟩), .int .i64 n, .bool free] W (PickPost all free W) := by
  obtain ⟨i0, hi, hz0, hz1, hz2⟩ := info3y
  have HH := Lib.hid H
  have hla : (all.length : Int) ≤ 1000 := by omega
  clear H
  go_enter Try.func34, Try.ntmps34
  go_wp2
  go_loopw [7, 8] (fun v i wr => ∃ (k : Nat) (ls : List Int), i = .int .i64 k ∧ k ≤ all.length ∧ Ints W.heap.size wr v ls ∧ ls.length ≤ k ∧ (∀ m ∈ ls, Picks all free m) ∧ Below W.heap.size W wr) (fun _ i _ => all.length - (intOf i).toNat)
  case atStart => exact ⟨0, [], rfl, Nat.zero_le _, Ints.nil _ _, Nat.le_refl _, by simp, Below.refl _ _⟩
  case round =>
    obtain ⟨k, ls, rfl, hk, hI, hlk, hP, hbw⟩ := hrel
    have Hr := HH.out.later hbw
    obtain ⟨c0, _, _⟩ := Hr.cells
    by_cases hlt : k < all.length
    · obtain ⟨x, hx⟩ : ∃ x, all[k]? = some x := ⟨_, List.getElem?_eq_getElem hlt⟩
      obtain ⟨ga, cap2, e2, _, _, hcap, hcell, _⟩ := Hr.itemAt hx
      simp only [Value.slice.injEq] at e2
      obtain ⟨rfl, _, rfl⟩ := e2
      have d7 := hcell 7 (.bool x.gone) rfl
      have d3 := hcell 3 (.int .i64 x.holder) rfl
      have HX := Lib.hid hx
      have HI := Lib.hid hI
      have HP := Lib.hid hP
      have HB := Lib.hid hbw
      have hrow := hI
      have hws := hbw.size
      have hm1 : ls.length + 1 ≤ maxLen := by unfold maxLen; omega
      have hm2 : (ls.length + 1) * 8 ≤ 140737488355328 := by omega
      have hlk2 : k < all.length := hlt
      clear hx hI hP hcell Hr hbw
      have hpass : ∀ n, (∃ (k_1 : Nat) (ls : List Int), Value.int .i64 ((k : Int) + 1) = .int .i64 k_1 ∧ k_1 ≤ all.length ∧ Ints W.heap.size (wr.drewN n) u7 ls ∧ ls.length ≤ k_1 ∧ (∀ m ∈ ls, Picks all free m) ∧ Below W.heap.size W (wr.drewN n)) ∧ all.length - (intOf (.int .i64 ((k : Int) + 1))).toNat < all.length - (intOf (.int .i64 (k : Int))).toNat := fun n =>
        ⟨⟨k + 1, ls, by go_num, by omega, ownsRow_block HI.out fun _ _ => rfl, by omega, HP.out, below_drewN HB.out n⟩, by simp [intOf]; omega⟩
      have HPS := Lib.hid hpass
      clear hpass
      cases hg : x.gone with
      | true =>
        rw [hg] at d7
        clear hg
        go_wp2
        exact HPS.out 0
      | false =>
        rw [hg] at d7
        have HG := Lib.hid hg
        clear hg
        by_cases hh : x.holder = 0
        · rw [hh] at d3
          cases free with
          | true =>
            have HHO : Hid (decide (x.holder = 0) = true) := Lib.hid (by simpa using hh)
            clear hh
            go_wp2_with (first
              | (at_builtin; refine wpList_append_own _ rfl _ _ 33 rfl W.heap.size 3 i0 (.int .i64 0) 1 8 Try.underlying33 hi hz0 hz1 hz2 rfl (by decide) u7 ls.length (ls.map (Value.int .i64)) rfl (World.ownsRow.alloc hrow _) ⟨wr.heap.size, 0, none⟩ 1 1 [.int .i64 (k : Int)] rfl rfl (cell_one_new _ _ _) (by simp [Value.oneCell']) hm1 hm2 (by rw [World.size_alloc]; omega) ?_
                 intro v' w3 hown' hgrow _; obtain ⟨hi3, hb3⟩ := Ints.appended hrow hws hown' hgrow; clear hrow hown' hgrow)
              | go_in)
            exact ⟨⟨k + 1, ls ++ [(k : Int)], by go_num, by omega, hi3, by simp; omega, fun m hm => by
              rcases List.mem_append.1 hm with hm | hm
              · exact HP.out m hm
              · simp only [List.mem_singleton] at hm
                exact ⟨k, x, hm, HX.out, HG.out, HHO.out⟩, HB.out.trans hb3⟩, by simp [intOf]; omega⟩
          | false =>
            clear hh
            go_wp2
            exact HPS.out 0
        · have hb : (x.holder == 0) = false := by simpa using hh
          cases free with
          | true =>
            go_wp2
            exact HPS.out 0
          | false =>
            have HHO : Hid (decide (x.holder = 0) = false) := Lib.hid (by simpa using hh)
            go_wp2_with (first
              | (at_builtin; refine wpList_append_own _ rfl _ _ 33 rfl W.heap.size 3 i0 (.int .i64 0) 1 8 Try.underlying33 hi hz0 hz1 hz2 rfl (by decide) u7 ls.length (ls.map (Value.int .i64)) rfl (World.ownsRow.alloc hrow _) ⟨wr.heap.size, 0, none⟩ 1 1 [.int .i64 (k : Int)] rfl rfl (cell_one_new _ _ _) (by simp [Value.oneCell']) hm1 hm2 (by rw [World.size_alloc]; omega) ?_
                 intro v' w3 hown' hgrow _; obtain ⟨hi3, hb3⟩ := Ints.appended hrow hws hown' hgrow; clear hrow hown' hgrow)
              | go_in)
            exact ⟨⟨k + 1, ls ++ [(k : Int)], by go_num, by omega, hi3, by simp; omega, fun m hm => by
              rcases List.mem_append.1 hm with hm | hm
              · exact HP.out m hm
              · simp only [List.mem_singleton] at hm
                exact ⟨k, x, hm, HX.out, HG.out, HHO.out⟩, HB.out.trans hb3⟩, by simp [intOf]; omega⟩
    · obtain rfl : k = all.length := by omega
      have HB := Lib.hid hbw
      have HP := Lib.hid hP
      rcases hI.cases with ⟨rfl, rfl⟩ | ⟨g, cap, rfl, _, _, hc, _, hcell, _⟩
      · clear hI hP hbw Hr
        go_wp2
        go_ret
        exact ⟨⟨-1, rfl, .inl rfl⟩, HB.out⟩
      · rcases Nat.eq_zero_or_pos ls.length with hz | hz
        · obtain rfl : ls = [] := List.length_eq_zero_iff.1 hz
          clear hI hP hbw Hr hcell
          go_wp2
          go_ret
          exact ⟨⟨-1, rfl, .inl rfl⟩, HB.out⟩
        · have hr0 : 0 ≤ n % (ls.length : Int) := Int.emod_nonneg _ (by omega)
          have hr1 : n % (ls.length : Int) < (ls.length : Int) := Int.emod_lt_of_pos _ (by omega)
          obtain ⟨m, hm⟩ : ∃ m, ls[(n % (ls.length : Int)).toNat]? = some m := ⟨_, List.getElem?_eq_getElem (by omega)⟩
          have cm := hcell _ m hm
          have HM := Lib.hid (List.mem_of_getElem? hm)
          have hz1 : (1 : Int) ≤ (ls.length : Int) := by omega
          have hz2 : (ls.length : Int) ≤ 1000 := by omega
          have hz3 : ¬ (ls.length : Int) = 0 := by omega
          clear hI hP hbw Hr hcell hm
          go_wp2
          go_ret
          exact ⟨⟨m, rfl, .inr (HP.out m HM.out)⟩, HB.out⟩

end Go.Proofs.Ytgincippgaecfaa.Au

namespace Go.Proofs.Ytgincippgaecfaa.Au
open Go Go.RowKit
attribute [local go_sem ↓] Go.wp_at_zero Go.wp_at_succ

theorem rem6 (k : Int) : 0 ≤ (wrap64 (k.tmod 6 + 6)).tmod 6 ∧ (wrap64 (k.tmod 6 + 6)).tmod 6 ≤ 5 := by
  have h1 : -6 < k.tmod 6 := Int.lt_tmod_of_pos _ (by omega)
  have h2 : k.tmod 6 < 6 := Int.tmod_lt_of_pos _ (by omega)
  have h3 : wrap64 (k.tmod 6 + 6) = k.tmod 6 + 6 := by unfold wrap64; omega
  rw [h3, Int.tmod_eq_emod_of_nonneg (by omega)]
  omega
theorem rem8 (k : Int) : 0 ≤ (wrap64 (k.tmod 8 + 8)).tmod 8 ∧ (wrap64 (k.tmod 8 + 8)).tmod 8 ≤ 7 := by
  have h1 : -8 < k.tmod 8 := Int.lt_tmod_of_pos _ (by omega)
  have h2 : k.tmod 8 < 8 := Int.tmod_lt_of_pos _ (by omega)
  have h3 : wrap64 (k.tmod 8 + 8) = k.tmod 8 + 8 := by unfold wrap64; omega
  rw [h3, Int.tmod_eq_emod_of_nonneg (by omega)]
  omega

theorem info53 : (Try.prog.info? 53).map (fun i => (i.zero, i.size, i.bytes)) = some (some (.agg #[.int .i64 0, .bool false, .int .i64 0, .int .i64 0, .string ⟨#[]⟩, .int .i64 0, .bool false, .bool false]), 8, 64) := by kernel_rfl

theorem far8 {A B : World} {row : Option Nat} {I : Nat} {u0 u1 u2 u3 u4 u5 u6 u7 : Value} (hg : A.grownBy B row) (hI : I < A.heap.size) (hr : row ≠ some I) (h : A.cell? ⟨I, 0, none⟩ = some u0 ∧ A.cell? ⟨I, 1, none⟩ = some u1 ∧ A.cell? ⟨I, 2, none⟩ = some u2 ∧ A.cell? ⟨I, 3, none⟩ = some u3 ∧ A.cell? ⟨I, 4, none⟩ = some u4 ∧ A.cell? ⟨I, 5, none⟩ = some u5 ∧ A.cell? ⟨I, 6, none⟩ = some u6 ∧ A.cell? ⟨I, 7, none⟩ = some u7) : B.cell? ⟨I, 0, none⟩ = some u0 ∧ B.cell? ⟨I, 1, none⟩ = some u1 ∧ B.cell? ⟨I, 2, none⟩ = some u2 ∧ B.cell? ⟨I, 3, none⟩ = some u3 ∧ B.cell? ⟨I, 4, none⟩ = some u4 ∧ B.cell? ⟨I, 5, none⟩ = some u5 ∧ B.cell? ⟨I, 6, none⟩ = some u6 ∧ B.cell? ⟨I, 7, none⟩ = some u7 := by
  obtain ⟨h0, h1, h2, h3, h4, h5, h6, h7⟩ := h
  have k : ∀ o, B.cell? ⟨I, o, none⟩ = A.cell? ⟨I, o, none⟩ := fun o => hg.cell_far ⟨I, o, none⟩ hI (Ne.symm hr)
  exact ⟨(k 0).trans h0, (k 1).trans h1, (k 2).trans h2, (k 3).trans h3, (k 4).trans h4, (k 5).trans h5, (k 6).trans h6, (k 7).trans h7⟩

/-- What does leaves: one of the moves was made. -/
def DoesPost (B : Nat) (w0 : World) (wb : Nat) (all : List Item) (h : List Ent) (r : Ending) (W' : World) : Prop :=
  r = .returned (.tuple #[]) ∧ ∃ all' h' va' vh', Move all h all' h' ∧ WS B w0 wb (all'.length : Int) all' h' va' vh' W'

set_option maxRecDepth 100000 in
set_option maxHeartbeats 16000000 in
theorem does_send (B : Nat) (w0 : World) (wb : Nat) (all : List Item) (h : List Ent) (va vh : Value) (W : World) (H : WS B w0 wb (all.length : Int) all h va vh W) (hl : h.length ≤ 900) (hla : all.length ≤ 900) (k w n : Int) (f : Bool) (hn1 : -9223372036854775808 ≤ n) (hn2 : n ≤ 9223372036854775807) (hkk : (wrap64 (k.tmod 6 + 6)).tmod 6 = 0) :
    Calls Try.prog 19 #[.pointer (some ⟨wb, 0, none⟩), .agg #[.int .i64 k, .int .i64 w, .int .i64 n, .bool f]] W (DoesPost B w0 wb all h) := by
  obtain ⟨v, hv⟩ : ∃ v, (wrap64 (w.tmod 8 + 8)).tmod 8 = v := ⟨_, rfl⟩
  have hv0 := rem8 w
  rw [hv] at hv0
  obtain ⟨hv1, hv2⟩ := hv0
  have HA := H.later ((Below.refl _ W).alloc (Nat.le_refl _) (.cells #[.int .i64 k, .int .i64 w, .int .i64 n, .bool f] 51))
  obtain ⟨_, _, a2⟩ := HA.cells
  have hf2 := HA.frozen 2
  have hlen : (all.length : Int) ≤ 900 := by omega
  have HW := Lib.hid H.lt
  have HH := Lib.hid HA
  clear H HA
  by_cases hn : n < 0
  all_goals
    go_enter Try.func19, Try.ntmps19
    go_wp2
    have hlt := HH.out.lt
    have hH2 := HH.out.next ((all.length : Int) + 1)
    have t3 : ((W.alloc (.cells #[.int .i64 k, .int .i64 w, .int .i64 n, .bool f] 51)).setCell ⟨wb, 2, none⟩ (.int .i64 ((all.length : Int) + 1))).cell? ⟨W.heap.size, 3, none⟩ = some (.bool f) :=
      (World.cell?_setCell_other _ _ (a := ⟨wb, 2, none⟩) (b := ⟨W.heap.size, 3, none⟩) (fun e => by have h9 : wb = W.heap.size := congrArg Addr.block e; have := HW.out; omega)).trans (by simp)
    obtain ⟨W2, hW2⟩ : ∃ W2, (W.alloc (.cells #[.int .i64 k, .int .i64 w, .int .i64 n, .bool f] 51)).setCell ⟨wb, 2, none⟩ (.int .i64 ((all.length : Int) + 1)) = W2 := ⟨_, rfl⟩
    rw [hW2] at hH2 t3 ⊢
    obtain ⟨e0, e1, e2⟩ := hH2.cells
    have n1 := World.new_ne W2 ⟨wb, 2, none⟩ e2
    have n2 := World.new_ne W2 ⟨W.heap.size, 3, none⟩ t3
    have H2 := Lib.hid hH2
    clear hW2 hH2 a2 hf2
    go_region_held3 (fun w' => w'.cell? ⟨wb, 2, none⟩ = some (.int .i64 ((all.length : Int) + 1)) ∧ w'.cell? ⟨W.heap.size, 3, none⟩ = some (.bool f)) (go_keep) (fail)
    go_wp2
    have h3 := H2.out.later (((Below.refl _ W2).alloc (Nat.le_refl _) (.cells #[Value.int .i64 ((all.length : Int) + 1), .bool f, .int .i64 0, .int .i64 0, .string ⟨#[113, 117, 101, 117, 101, 47, 113]⟩, .int .i64 (1 + v), .bool false, .bool false] 53)).drew)
    have i0' := World.cell?_alloc_new W2 #[Value.int .i64 ((all.length : Int) + 1), .bool f, .int .i64 0, .int .i64 0, .string ⟨#[113, 117, 101, 117, 101, 47, 113]⟩, .int .i64 (1 + v), .bool false, .bool false] 53
    obtain ⟨W3, hW3⟩ : ∃ W3, (W2.alloc (.cells #[Value.int .i64 ((all.length : Int) + 1), .bool f, .int .i64 0, .int .i64 0, .string ⟨#[113, 117, 101, 117, 101, 47, 113]⟩, .int .i64 (1 + v), .bool false, .bool false] 53)).drew = W3 := ⟨_, rfl⟩
    have s3 : W3.heap.size = W2.heap.size + 1 := by rw [← hW3]; simp
    have b0 : W3.cell? ⟨W2.heap.size, 0, none⟩ = some (.int .i64 ((all.length : Int) + 1)) := by rw [← hW3]; exact i0' 0
    have b1 : W3.cell? ⟨W2.heap.size, 1, none⟩ = some (.bool f) := by rw [← hW3]; exact i0' 1
    have b2 : W3.cell? ⟨W2.heap.size, 2, none⟩ = some (.int .i64 0) := by rw [← hW3]; exact i0' 2
    have b3 : W3.cell? ⟨W2.heap.size, 3, none⟩ = some (.int .i64 0) := by rw [← hW3]; exact i0' 3
    have b4 : W3.cell? ⟨W2.heap.size, 4, none⟩ = some (.string ⟨#[113, 117, 101, 117, 101, 47, 113]⟩) := by rw [← hW3]; exact i0' 4
    have b5 : W3.cell? ⟨W2.heap.size, 5, none⟩ = some (.int .i64 (1 + v)) := by rw [← hW3]; exact i0' 5
    have b6 : W3.cell? ⟨W2.heap.size, 6, none⟩ = some (.bool false) := by rw [← hW3]; exact i0' 6
    have b7 : W3.cell? ⟨W2.heap.size, 7, none⟩ = some (.bool false) := by rw [← hW3]; exact i0' 7
    rw [hW3] at h3 ⊢
    have H3 := Lib.hid h3
    have S3 := Lib.hid s3
    obtain ⟨c0, _, _⟩ := h3.cells
    have hl3 := h3.lt
    have c0' := (((Below.refl _ W3).alloc (Nat.le_refl _) (.cells #[Value.int .i64 ((all.length : Int) + 1), .bool f, .int .i64 0, .int .i64 0, .string ⟨#[113, 117, 101, 117, 101, 47, 113]⟩, .int .i64 (1 + v), .bool false, .bool false] 53)).cell (p := ⟨wb, 0, none⟩) hl3).trans c0
    have hf3 := (((Below.refl _ W3).alloc (Nat.le_refl _) (.cells #[Value.int .i64 ((all.length : Int) + 1), .bool f, .int .i64 0, .int .i64 0, .string ⟨#[113, 117, 101, 117, 101, 47, 113]⟩, .int .i64 (1 + v), .bool false, .bool false] 53)).frozen (p := ⟨wb, 0, none⟩) hl3).trans (h3.frozen 0)
    have hI3 : W2.heap.size < W3.heap.size := by omega
    have hIwb : wb < W2.heap.size := H2.out.lt
    obtain ⟨i5, hi, hz0, hz1, hz2⟩ := info_parts info53
    have hx1 : all.length + 1 ≤ maxLen := by unfold maxLen; omega
    have hx2 : (all.length + 1) * 64 ≤ 140737488355328 := by omega
    have hone : ∀ u ∈ [Value.int .i64 ((all.length : Int) + 1), .bool f, .int .i64 0, .int .i64 0, .string ⟨#[113, 117, 101, 117, 101, 47, 113]⟩, .int .i64 (1 + v), .bool false, .bool false], u.oneCell' = true := cellsI_one [newItem all.length (1 + v) f]
    have HO := Lib.hid (show (W3.drew.alloc (.cells #[Value.int .i64 ((all.length : Int) + 1), .bool f, .int .i64 0, .int .i64 0, .string ⟨#[113, 117, 101, 117, 101, 47, 113]⟩, .int .i64 (1 + v), .bool false, .bool false] 53)).ownsRow (wb + 1) 53 8 va all.length (cellsI all) from World.ownsRow.alloc (ownsRow_block (B := W3.drew) h3.items fun _ _ => rfl) _)
    have hnews := cells_new W3.drew [Value.int .i64 ((all.length : Int) + 1), .bool f, .int .i64 0, .int .i64 0, .string ⟨#[113, 117, 101, 117, 101, 47, 113]⟩, .int .i64 (1 + v), .bool false, .bool false] 53
    have hb9 : wb + 1 ≤ (W3.drew.alloc (.cells #[Value.int .i64 ((all.length : Int) + 1), .bool f, .int .i64 0, .int .i64 0, .string ⟨#[113, 117, 101, 117, 101, 47, 113]⟩, .int .i64 (1 + v), .bool false, .bool false] 53)).heap.size := by simp; omega
    have hvw : va.ownBlock ≠ some wb := fun e => by have := (World.ownsRow.lt h3.items _ e).1; omega
    have hvI : va.ownBlock ≠ some W2.heap.size := fun e => by
      have := (World.ownsRow.lt H2.out.items _ e).2
      omega
    have nn := World.new_ne W3 ⟨W2.heap.size, 0, none⟩ b0
    have nI : W2.heap.size ≠ wb := by omega
    clear hW3 i0' h3 s3 e0 e1 e2 t3 n1 n2
    go_region_law
      ((refine step_append_lies _ (by rfl) _ _ _ (by rfl) (wb + 1) 53 i5 _ 8 64 Try.underlying46 hi hz0 hz1 hz2 rfl (by omega) va all.length (cellsI all) (by rfl) HO.out ⟨W3.heap.size, 0, none⟩ 1 1 [Value.int .i64 ((all.length : Int) + 1), .bool f, .int .i64 0, .int .i64 0, .string ⟨#[113, 117, 101, 117, 101, 47, 113]⟩, .int .i64 (1 + v), .bool false, .bool false] (by rfl) rfl hnews hone (by omega) hx1 hx2 hb9 _ rfl ?_; intro g cap9 w9 hown9 hgrow9 hat9 hlt9; have hc9 : w9.frozen? ⟨wb, 0, none⟩ = false := (hgrow9.frozen_far ⟨wb, 0, none⟩ (by simp; omega) (Ne.symm hvw)).trans hf3; have hd9 : w9.cell? ⟨wb, 0, none⟩ = some va := (hgrow9.cell_far ⟨wb, 0, none⟩ (by simp; omega) (Ne.symm hvw)).trans c0'; have hz9 := hgrow9.size; simp at hz9))
    all_goals
      have hW9 := H3.out.grow (x := newItem all.length (1 + v) f) ((Grow.drew _ _).trans hgrow9) (by rw [cellsI_append]; exact hown9) (fun g' e => by
        simp only [Value.ownBlock, Option.some.injEq] at e
        subst e
        rcases hat9 with a | a
        · exact .inl a
        · exact .inr (by rw [a]; simp))
      have hadd : Calls Try.prog 33 #[.pointer (some ⟨wb, 0, none⟩), .int .i64 1, .int .i64 (1 + v), .string ⟨#[113, 117, 101, 117, 101, 47, 113]⟩, .agg #[.int .i64 ((all.length : Int) + 1), .bool f, .int .i64 0, .int .i64 0, .string ⟨#[113, 117, 101, 117, 101, 47, 113]⟩, .int .i64 (1 + v), .bool false, .bool false], .int .i64 0] (w9.setCell ⟨wb, 0, none⟩ (.slice (some ⟨g, 0, none⟩) (all.length + 1) cap9)) (AddPost B w0 wb ((all.length : Int) + 1) (all ++ [newItem all.length (1 + v) f]) (h ++ [about 1 (1 + v) qQ (newItem all.length (1 + v) f) 0]) (.slice (some ⟨g, 0, none⟩) (all.length + 1) cap9)) := add_any B w0 wb _ (all ++ [newItem all.length (1 + v) f]) h _ vh _ hW9 (by omega) 1 (1 + v) qQ (newItem all.length (1 + v) f) 0
      obtain ⟨k0, k1, k2, k3, k4, k5, k6, k7⟩ := far8 (Go.Proofs.Ytgincippgaecfaa.Au.grown_setJ w9 wb 0 (.slice (some ⟨g, 0, none⟩) (all.length + 1) cap9)) (I := W2.heap.size) (by omega) (by simp; omega) (far8 hgrow9 (by simp; omega) hvI (far8 (World.grownBy_alloc W3.drew _ none) (by simp; omega) (by simp) ⟨b0, b1, b2, b3, b4, b5, b6, b7⟩))
      clear b0 b1 b2 b3 b4 b5 b6 b7 c0 c0' hf3 hnews hone hx1 hx2 hb9 hc9 hd9 hown9 hgrow9 hat9 hW9
      go_wp2_with ((go_at_call 33; refine hadd.mono ?_; clear hadd; rintro r w10 ⟨rfl, vh', hH'⟩))
      go_end0
      exact ⟨rfl, _, _, _, _, Move.send all h (1 + v) f (by omega) (by omega), by simpa using hH'⟩

end Go.Proofs.Ytgincippgaecfaa.Au
