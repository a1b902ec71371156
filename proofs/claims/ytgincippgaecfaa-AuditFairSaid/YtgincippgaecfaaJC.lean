/-
  J16: The program's wrong: its walk at a crash, at something got. No condition but what the judge holds.
  J17: The program's wrong: its walk at something sent. No condition but what the judge holds.
  J18: The program's wrong: what it answers is what is wrong; where nothing is, the judge takes the entry into account. No condition but what the judge holds.
  J19: The program's wrong, at whatever entry. No condition but what the judge holds.
-/
import Derived.Test.YtgincippgaecfaaJ15
import Derived.Deep.RegionHeld3
import Derived.Deep.AppendLies
import Derived.Deep.DrawnRows
import Derived.Test.YtgincippgaecfaaL2
namespace Go.Proofs.Ytgincippgaecfaa.Au
open Go Go.RowKit
attribute [local go_sem ↓] Go.wp_at_zero Go.wp_at_succ

set_option maxRecDepth 100000 in
set_option maxHeartbeats 4000000 in
theorem crash_any (p : Value) (who m c : Int) (q : ByteArray) (d : Bool) (W : World) :
    Calls Try.prog 21 #[p, .agg #[.int .i64 7, .int .i64 who, .string q, .int .i64 m, .int .i64 c, .bool d]] W fun r W' => r = .returned (.int .i64 0) ∧ Below W.heap.size W W' := by
  have hB2 := W2of_below W ⟨7, who, q, m, c, d⟩
  unfold W2of at hB2
  have HB2 := Lib.hid hB2
  clear hB2
  go_enter Try.func21, Try.ntmps21
  go_wp2
  go_ret
  exact ⟨rfl, HB2.out⟩

set_option maxRecDepth 100000 in
set_option maxHeartbeats 4000000 in
theorem got_no (S : Nat) (g : Int) (who m c : Int) (q : ByteArray) (d : Bool) (W : World) (hg : ¬ g = 0)
    (hc : Calls Try.prog 39 #[.pointer (some ⟨S + 5, 0, none⟩), .agg #[.int .i64 4, .int .i64 who, .string q, .int .i64 m, .int .i64 c, .bool d]] (W2of W ⟨4, who, q, m, c, d⟩) fun r w' => r = .returned (.int .i64 g) ∧ Below (W2of W ⟨4, who, q, m, c, d⟩).heap.size (W2of W ⟨4, who, q, m, c, d⟩) w') :
    Calls Try.prog 21 #[.pointer (some ⟨S + 5, 0, none⟩), .agg #[.int .i64 4, .int .i64 who, .string q, .int .i64 m, .int .i64 c, .bool d]] W fun r W' => r = .returned (.int .i64 g) ∧ Below W.heap.size W W' := by
  have hB2 := W2of_below W ⟨4, who, q, m, c, d⟩
  have hz := W2of_size W ⟨4, who, q, m, c, d⟩
  have HZ := Lib.hid hz
  unfold W2of at hB2 hc HZ
  have HB2 := Lib.hid hB2
  clear hB2 hz
  go_enter Try.func21, Try.ntmps21
  go_wp2_with (first
    | (go_at_call 39; refine hc.mono ?_; clear hc; rintro r w4 ⟨rfl, hb4⟩; have HB4 := Lib.hid hb4; clear hb4)
    | go_in)
  go_ret
  exact ⟨rfl, HB2.out.trans (HB4.out.mono (by rw [HZ.out]; omega))⟩

set_option maxRecDepth 100000 in
set_option maxHeartbeats 4000000 in
theorem got_yesJ (S n : Nat) (f : Value → Value) (x : Int) (who m c : Int) (q : ByteArray) (d : Bool) (W : World) (hj : W.cell? ⟨S + 5, 2, none⟩ = some (.map (some (S + 2)))) (hlt : S + 5 < W.heap.size) (hM : MapV W 55 (S + 2) n (.int .i64 0) f) (hn : n < maxLen)
    (hk : KeyOk 55 (alikeV ⟨4, who, q, m, c, d⟩)) (hf : f (alikeV ⟨4, who, q, m, c, d⟩) = .int .i64 x) (h0 : 0 ≤ x) (h1 : x ≤ 1000)
    (hc : Calls Try.prog 39 #[.pointer (some ⟨S + 5, 0, none⟩), .agg #[.int .i64 4, .int .i64 who, .string q, .int .i64 m, .int .i64 c, .bool d]] (W2of W ⟨4, who, q, m, c, d⟩) fun r w' => r = .returned (.int .i64 0) ∧ Below (W2of W ⟨4, who, q, m, c, d⟩).heap.size (W2of W ⟨4, who, q, m, c, d⟩) w') :
    Calls Try.prog 21 #[.pointer (some ⟨S + 5, 0, none⟩), .agg #[.int .i64 4, .int .i64 who, .string q, .int .i64 m, .int .i64 c, .bool d]] W fun r W' => r = .returned (.int .i64 0) ∧ ∃ W1, Below W.heap.size W W1 ∧ W1.grownBy W' (some (S + 2)) ∧ MapV W' 55 (S + 2) (n + 1) (.int .i64 0) (upd f (alikeV ⟨4, who, q, m, c, d⟩) (.int .i64 (x + 1))) := by
  have hB2 := W2of_below W ⟨4, who, q, m, c, d⟩
  have hz := W2of_size W ⟨4, who, q, m, c, d⟩
  have hx : ∀ w4, Below (W2of W ⟨4, who, q, m, c, d⟩).heap.size (W2of W ⟨4, who, q, m, c, d⟩) w4 → Below W.heap.size W w4 ∧ w4.cell? ⟨S + 5, 2, none⟩ = some (.map (some (S + 2))) ∧ EntAt w4 (W.heap.size + 1) 0 ⟨0, who, q, m, c, d⟩ := fun w4 h4 => by
    have h5 := hB2.trans (h4.mono (by omega))
    refine ⟨h5, (h5.cell (p := ⟨S + 5, 2, none⟩) hlt).trans hj, EntAt.below h4 (by omega) ?_⟩
    refine ⟨?_, ?_, ?_, ?_, ?_, ?_⟩ <;> simp [W2of]
  have HX := Lib.hid hx
  have HM := Lib.hid hM
  have HK := Lib.hid hk
  have HF := Lib.hid hf
  unfold W2of at hc HX
  clear hB2 hz hx hM hk hf hj
  go_enter Try.func21, Try.ntmps21
  go_wp2_with (first
    | (go_at_call 39; refine hc.mono ?_; clear hc; rintro r w4 ⟨rfl, hb4⟩
       obtain ⟨hb5, hj5, e0, e1, e2, e3, e4, e5⟩ := HX.out w4 hb4
       clear hb4
       simp only at e0 e1 e2 e3 e4 e5
       have hM4 := (HM.out.below hb5 HM.out.lt).drew
       obtain ⟨v0, st, w6, hme, hm6, hg6, hst⟩ := hM4.entry law55 Try.underlying61 zero3 hn HK.out
       have hlk := hM4.look keyed55 Try.underlying61 (zero3 _) HK.out
       have hlk6 := hm6.look keyed55 Try.underlying61 (zero3 _) HK.out
       rw [HF.out] at hlk hlk6
       obtain ⟨w7, hes, hg7, hm7⟩ := hst w6 (.int .i64 (x + 1)) rfl
       have hes' : (Instr.entryStore 61 (.map (some (S + 2))) (.int .i64 st) (.int .i64 (x + 1))).run Try.prog w6 = .ok () w7 := hes
       have HB5 := Lib.hid hb5
       have HG := Lib.hid (And.intro hg6 (And.intro hg7 hm7))
       unfold alikeV at hme hlk hlk6
       clear hes hst hm6 hM4 hb5 hg6 hg7 hm7)
    | go_in)
  go_region
  all_goals go_wp2
  all_goals go_ret
  all_goals exact ⟨rfl, w4, HB5.out, (Grow.drew _ _).trans (HG.out.1.trans HG.out.2.1), HG.out.2.2 _ (upd_same _ _ _) fun y hy => upd_other _ _ _ hy⟩

end Go.Proofs.Ytgincippgaecfaa.Au

namespace Go.Proofs.Ytgincippgaecfaa.Au
open Go Go.RowKit
attribute [local go_sem ↓] Go.wp_at_zero Go.wp_at_succ

theorem cellsFar {A B : World} {row : Option Nat} {S E : Nat} {e : Ent} (hg : A.grownBy B row) (hS : S + 5 < A.heap.size) (hE : E < A.heap.size) (hr : row ≠ some (S + 5)) (hr2 : row ≠ some E)
    (h : A.cell? ⟨S + 5, 3, none⟩ = some (.map (some (S + 3))) ∧ A.cell? ⟨E, 0, none⟩ = some (.int .i64 e.kind) ∧ A.cell? ⟨E, 1, none⟩ = some (.int .i64 e.who) ∧ A.cell? ⟨E, 2, none⟩ = some (.string e.queue) ∧ A.cell? ⟨E, 3, none⟩ = some (.int .i64 e.msg) ∧ A.cell? ⟨E, 4, none⟩ = some (.int .i64 e.count) ∧ A.cell? ⟨E, 5, none⟩ = some (.bool e.dur)) :
    B.cell? ⟨S + 5, 3, none⟩ = some (.map (some (S + 3))) ∧ B.cell? ⟨E, 0, none⟩ = some (.int .i64 e.kind) ∧ B.cell? ⟨E, 1, none⟩ = some (.int .i64 e.who) ∧ B.cell? ⟨E, 2, none⟩ = some (.string e.queue) ∧ B.cell? ⟨E, 3, none⟩ = some (.int .i64 e.msg) ∧ B.cell? ⟨E, 4, none⟩ = some (.int .i64 e.count) ∧ B.cell? ⟨E, 5, none⟩ = some (.bool e.dur) := by
  obtain ⟨h0, h1, h2, h3, h4, h5, h6⟩ := h
  have k : ∀ o, B.cell? ⟨E, o, none⟩ = A.cell? ⟨E, o, none⟩ := fun o => hg.cell_far ⟨E, o, none⟩ hE (Ne.symm hr2)
  exact ⟨(hg.cell_far ⟨S + 5, 3, none⟩ hS (Ne.symm hr)).trans h0, (k 0).trans h1, (k 1).trans h2, (k 2).trans h3, (k 3).trans h4, (k 4).trans h5, (k 5).trans h6⟩

theorem info55' : ∃ i0, Try.prog.info? 55 = some i0 ∧ i0.zero = some (.agg #[.int .i64 0, .int .i64 0, .string ⟨#[]⟩, .int .i64 0, .int .i64 0, .bool false]) ∧ i0.size = 6 ∧ i0.bytes = 56 := info_parts info55

/-- What wrong leaves behind something sent. -/
def SentPost (S B2 n ns : Nat) (f fs : Value → Value) (x : Int) (e : Ent) (xs : List Ent) (v : Value) (W W' : World) : Prop :=
  ∃ (w7 w9 : World) (tmp : Obj) (v' : Value), (W2of W e).grownBy w7 (some (S + 1)) ∧ MapV w7 55 (S + 1) (n + 1) (.int .i64 0) (upd f (alikeV e) (.int .i64 (x + 1))) ∧ MapV w7 3 (S + 3) ns (.slice none 0 0) fs ∧ (w7.alloc tmp).grownBy w9 v.ownBlock ∧
    w9.ownsRow B2 55 6 v' (xs.length + 1) (cellsOf (xs ++ [e])) ∧ (∀ g, v'.ownBlock = some g → v.ownBlock = some g ∨ w7.heap.size ≤ g) ∧ MapV W' 3 (S + 3) (ns + 1) (.slice none 0 0) (upd fs (.int .i64 e.msg) v') ∧ w9.grownBy W' (some (S + 3))

set_option maxRecDepth 100000 in
set_option maxHeartbeats 8000000 in
theorem sent_any (S B2 n ns : Nat) (f fs : Value → Value) (x : Int) (who m c : Int) (q : ByteArray) (d : Bool) (xs : List Ent) (v : Value) (W : World) (hj1 : W.cell? ⟨S + 5, 1, none⟩ = some (.map (some (S + 1)))) (hj3 : W.cell? ⟨S + 5, 3, none⟩ = some (.map (some (S + 3)))) (hlt : S + 5 < W.heap.size)
    (hM : MapV W 55 (S + 1) n (.int .i64 0) f) (hn : n < maxLen) (hk : KeyOk 55 (alikeV ⟨1, who, q, m, c, d⟩)) (hf : f (alikeV ⟨1, who, q, m, c, d⟩) = .int .i64 x) (h0 : 0 ≤ x) (h1 : x ≤ 1000)
    (hMs : MapV W 3 (S + 3) ns (.slice none 0 0) fs) (hns : ns < maxLen) (hm : (Lit.int .i64 m).wf = true) (hfs : fs (.int .i64 m) = v) (hown : W.ownsRow B2 55 6 v xs.length (cellsOf xs)) (hxs : xs.length ≤ 400) (hB2 : B2 ≤ W.heap.size) (hSB : S + 6 ≤ B2) :
    Calls Try.prog 21 #[.pointer (some ⟨S + 5, 0, none⟩), .agg #[.int .i64 1, .int .i64 who, .string q, .int .i64 m, .int .i64 c, .bool d]] W fun r W' => r = .returned (.int .i64 0) ∧ SentPost S B2 n ns f fs x ⟨1, who, q, m, c, d⟩ xs v W W' := by
  have hB := W2of_below W ⟨1, who, q, m, c, d⟩
  have hz := W2of_size W ⟨1, who, q, m, c, d⟩
  have hj12 := (hB.cell (p := ⟨S + 5, 1, none⟩) hlt).trans hj1
  have hj32 := (hB.cell (p := ⟨S + 5, 3, none⟩) hlt).trans hj3
  have hM2 := (hM.below hB hM.lt).drew
  obtain ⟨v0, st, w6, hme, hm6, hg6, hst⟩ := hM2.entry law55 Try.underlying61 zero3 hn hk
  have hlk := hM2.look keyed55 Try.underlying61 (zero3 _) hk
  have hlk6 := hm6.look keyed55 Try.underlying61 (zero3 _) hk
  rw [hf] at hlk hlk6
  obtain ⟨w7, hes, hg7, hm7⟩ := hst w6 (.int .i64 (x + 1)) rfl
  have hes' : (Instr.entryStore 61 (.map (some (S + 1))) (.int .i64 st) (.int .i64 (x + 1))).run Try.prog w6 = .ok () w7 := hes
  unfold alikeV at hme hlk hlk6
  have hG : (W2of W ⟨1, who, q, m, c, d⟩).grownBy w7 (some (S + 1)) := (Grow.drew _ _).trans (hg6.trans hg7)
  have hL7 := cellsFar (S := S) (E := W.heap.size) (e := ⟨1, who, q, m, c, d⟩) hG (by omega) (by omega) (by simp) (by simp; omega) ⟨hj32, by simp [W2of], by simp [W2of], by simp [W2of], by simp [W2of], by simp [W2of], by simp [W2of]⟩
  have hMs7 := ((hMs.below hB hMs.lt).kept hG (by simp))
  have hz7 := hG.size
  rw [hz] at hz7
  have hve : v.ownBlock ≠ some W.heap.size := fun e => by
    have := (World.ownsRow.lt hown _ e).2
    omega
  have hown7 := (ownsRow_kept (ownsRow_belowJ hown hB fun g hg => (World.ownsRow.lt hown g hg).2) hG fun r e hb => by
    have := Option.some.inj e
    have := (World.ownsRow.lt hown r hb).1
    omega)
  have hl7 := hMs7.drew.look keyed3 Try.underlying62 (zero23 _) (key3 hm)
  have hl8 := ((hMs7.alloc (.cells #[.int .i64 1, .int .i64 who, .string q, .int .i64 m, .int .i64 c, .bool d] 55)).drew).look keyed3 Try.underlying62 (zero23 _) (key3 hm)
  rw [hfs] at hl7 hl8
  obtain ⟨c0, c1, c2, c3, c4, c5, c6⟩ := hL7
  simp only at c1 c2 c3 c4 c5 c6
  obtain ⟨i0, hi, hz0, hz1, hz2⟩ := info55'
  have HG := Lib.hid (And.intro hG (hm7 _ (upd_same _ _ _) fun y hy => upd_other _ _ _ hy))
  have HMS := Lib.hid hMs7
  have HK := Lib.hid hm
  have hown8 : ((w7.drew).alloc (.cells #[.int .i64 1, .int .i64 who, .string q, .int .i64 m, .int .i64 c, .bool d] 55)).ownsRow B2 55 6 v xs.length (cellsOf xs) := World.ownsRow.alloc (ownsRow_block (B := w7.drew) hown7 fun _ _ => rfl) _
  have HO := Lib.hid hown8
  have hvb : ∀ r, r < B2 → v.ownBlock ≠ some r := fun r hr e => by
    have := (World.ownsRow.lt hown8 r e).1
    omega
  have hx1 : xs.length + 1 ≤ maxLen := by unfold maxLen; omega
  have hx2 : (xs.length + 1) * 56 ≤ 140737488355328 := by omega
  have hb9 : B2 ≤ ((w7.drew).alloc (.cells #[.int .i64 1, .int .i64 who, .string q, .int .i64 m, .int .i64 c, .bool d] 55)).heap.size := by simp; omega
  have hone : ∀ u ∈ [Value.int .i64 1, .int .i64 who, .string q, .int .i64 m, .int .i64 c, .bool d], u.oneCell' = true := by
    intro u hu
    simp at hu
    rcases hu with rfl | rfl | rfl | rfl | rfl | rfl <;> rfl
  unfold W2of at hj12 hj32 hme hlk
  clear hM hk hf hst hes hm7 hG hMs hMs7 hown hown7 hj1 hj3 hm6 hg6 hg7 hM2 hm hfs hown8
  go_enter Try.func21, Try.ntmps21
  go_wp2
  go_region
  all_goals go_wp2
  all_goals go_region_held3 (fun w' => w'.cell? ⟨S + 5, 3, none⟩ = some (.map (some (S + 3))) ∧ w'.cell? ⟨W.heap.size, 0, none⟩ = some (.int .i64 1) ∧ w'.cell? ⟨W.heap.size, 1, none⟩ = some (.int .i64 who) ∧ w'.cell? ⟨W.heap.size, 2, none⟩ = some (.string q) ∧ w'.cell? ⟨W.heap.size, 3, none⟩ = some (.int .i64 m) ∧ w'.cell? ⟨W.heap.size, 4, none⟩ = some (.int .i64 c) ∧ w'.cell? ⟨W.heap.size, 5, none⟩ = some (.bool d))
    (first
      | go_keep
      | exact ⟨c0, c1, c2, c3, c4, c5, c6⟩
      | assumption
      | exact cellsFar (e := ⟨1, who, q, m, c, d⟩) (World.grownBy_alloc _ _ none) (by simp; omega) (by simp; omega) (by simp) (by simp) (by assumption)
      | exact cellsFar (e := ⟨1, who, q, m, c, d⟩) hg10 (by omega) (by omega) (by simp) (by simp; omega) (by assumption)
      | exact cellsFar (e := ⟨1, who, q, m, c, d⟩) hgrow9 (by simp; omega) (by simp; omega) (hvb _ (by omega)) hve (by assumption))
    ((refine step_append_lies _ (by rfl) _ _ _ (by rfl) B2 55 i0 _ 6 56 Try.underlying23 hi hz0 hz1 hz2 rfl (by omega) v xs.length (cellsOf xs) (by rfl) HO.out ⟨w7.heap.size, 0, none⟩ 1 1 [.int .i64 1, .int .i64 who, .string q, .int .i64 m, .int .i64 c, .bool d] (by rfl) rfl (cells_new w7.drew [.int .i64 1, .int .i64 who, .string q, .int .i64 m, .int .i64 c, .bool d] 55) hone (by omega) hx1 hx2 hb9 _ rfl ?_; intro g cap w9 hown9 hgrow9 hat9 hlt9; obtain ⟨w10, hr10, hm10, hg10⟩ := ((HMS.out.drew.alloc _).kept hgrow9 (Ne.symm (hvb (S + 3) (by omega)))).put keyed3 Try.underlying62 hns (key3 HK.out) (.slice (some ⟨g, 0, none⟩) (xs.length + 1) cap); have hz9 := hgrow9.size; simp at hz9))
  all_goals go_wp2
  all_goals go_ret
  all_goals exact ⟨rfl, w7, w9, _, _, HG.out.1, HG.out.2, HMS.out, (Grow.drew _ _).trans hgrow9, by rw [cellsOf_append]; exact hown9, fun g' e => by
    simp only [Value.ownBlock, Option.some.injEq] at e
    subst e
    rcases hat9 with h | h
    · exact .inl h
    · exact .inr (by rw [h]; simp), hm10 _ (upd_same _ _ _) fun y hy => upd_other _ _ _ hy, hg10⟩

end Go.Proofs.Ytgincippgaecfaa.Au

namespace Go.Proofs.Ytgincippgaecfaa.Au
open Go Go.RowKit

/-- An entry as a judge may meet it. -/
structure EntOk (e : Ent) : Prop where
  ok : okE e = true
  msg : (Lit.int .i64 e.msg).wf = true
  count : (Lit.int .i64 e.count).wf = true
  who : (Lit.int .i64 e.who).wf = true
  queue : e.queue.size ≤ maxLen

theorem EntOk.key {e : Ent} (h : EntOk e) : KeyOk 55 (alikeV e) := key55 (e := ⟨0, e.who, e.queue, e.msg, e.count, e.dur⟩) rfl h.who h.queue h.msg h.count

theorem okE_kind {e : Ent} (h : okE e = true) : e.kind = 1 ∨ e.kind = 2 ∨ e.kind = 3 ∨ e.kind = 4 ∨ e.kind = 5 ∨ e.kind = 6 ∨ e.kind = 7 := by
  unfold okE at h
  split at h
  · omega
  · split at h
    · omega
    · split at h
      · omega
      · cases h
theorem okE_count {e : Ent} (h : okE e = true) (hk : e.kind = 1 ∨ e.kind = 2 ∨ e.kind = 3) : e.count = 0 := by
  unfold okE at h
  rw [if_neg (by omega), if_pos hk] at h
  simp at h
  exact h.1

theorem countL_false {pre : List Ent} {e : Ent} (hp : ∀ x ∈ pre, EntOk x) (he : e.count = 0) {one two : Int} (h1 : one = 1 ∨ one = 2 ∨ one = 3) (h2 : two = 1 ∨ two = 2 ∨ two = 3) : countL pre e one two false = countL pre e one two true := by
  unfold countL
  refine List.countP_congr fun x hx => ?_
  have ho := hp x hx
  by_cases hk : x.kind = one ∨ x.kind = two
  · have hc := okE_count ho.ok (by omega)
    simp [alikeE, hc, he]
  · have : (decide (x.kind = one) || decide (x.kind = two)) = false := by
      rw [Bool.eq_false_iff]; simpa using hk
    simp [this]

theorem wrongL_told {qs : List Qc} {pre : List Ent} {e : Ent} (hp : ∀ x ∈ pre, EntOk x) (he : EntOk e) (hk : e.kind = 2 ∨ e.kind = 3) : wrongL qs pre e = if 0 < openC pre e then 0 else 1 := by
  have hc := okE_count he.ok (by omega)
  unfold wrongL
  rw [if_pos hk, countL_false hp hc (by omega) (by omega), countL_false hp hc (by omega) (by omega)]
  unfold openC
  by_cases h : 0 < (countL pre e 1 1 true : Int) - countL pre e 2 3 true
  · rw [if_pos h, if_neg (by omega)]
  · rw [if_neg h, if_pos (by omega)]
theorem wrongL_done {qs : List Qc} {pre : List Ent} {e : Ent} (hk : e.kind = 5 ∨ e.kind = 6) : wrongL qs pre e = if 0 < heldC pre e then 0 else 6 := by
  unfold wrongL
  rw [if_neg (by omega), if_neg (by omega), if_pos hk]
  unfold heldC
  by_cases h : 0 < (countL pre e 4 4 true : Int) - countL pre e 5 6 true
  · rw [if_pos h, if_neg (by omega)]
  · rw [if_neg h, if_pos (by omega)]
theorem wrongL_sent {qs : List Qc} {pre : List Ent} {e : Ent} (hk : e.kind = 1 ∨ e.kind = 7) : wrongL qs pre e = 0 := by
  unfold wrongL
  rw [if_neg (by omega), if_neg (by omega), if_neg (by omega)]

theorem any_sentL {pre : List Ent} {m : Int} (p : Ent → Bool) : (sentL pre m).any p = pre.any fun x => decide (x.msg = m) && decide (x.kind = 1) && p x := by
  unfold sentL
  rw [List.any_filter]
theorem wrongL_got {qs : List Qc} {pre : List Ent} {e : Ent} (hk : e.kind = 4) : wrongL qs pre e = gotA qs (sentL pre e.msg) (backC pre e.msg) e := by
  unfold wrongL
  rw [if_neg (by omega), if_pos hk]
  unfold gotL gotA backC
  have h1 : (sentL pre e.msg = []) ↔ (!pre.any fun x => decide (x.msg = e.msg) && decide (x.kind = 1)) = true := by
    unfold sentL
    rw [List.filter_eq_nil_iff]
    simp
  have h2 : (beginsB e.queue.toList queueB && !(sentL pre e.msg).any fun x => leadsB qs x.queue.toList e.queue.toList) = !(!beginsB e.queue.toList queueB || pre.any fun x => decide (x.msg = e.msg) && decide (x.kind = 1) && leadsB qs x.queue.toList e.queue.toList) := by
    rw [any_sentL]
    simp
  have h3 : ((sentL pre e.msg).any fun x => x.dur == e.dur) = pre.any fun x => decide (x.msg = e.msg) && decide (x.kind = 1) && (x.dur == e.dur) := any_sentL _
  rw [h2, h3]
  simp only [h1]

section
variable {S B2 : Nat} {w0 W W' : World} {qs : List Qc} {pre : List Ent} {e : Ent}

theorem snoc_len (pre : List Ent) (e : Ent) : (pre ++ [e]).length = pre.length + 1 := by simp

theorem fine_snoc (h : ∀ x, 0 ≤ openC pre x ∧ 0 ≤ heldC pre x) (h1 : e.kind = 2 ∨ e.kind = 3 → 0 < openC pre e) (h2 : e.kind = 5 ∨ e.kind = 6 → 0 < heldC pre e) : ∀ x, 0 ≤ openC (pre ++ [e]) x ∧ 0 ≤ heldC (pre ++ [e]) x := fun x => by
  have hx := h x
  rw [openC_snoc, heldC_snoc]
  cases ha : alikeE true x e with
  | false => simpa using hx
  | true =>
    have e1 : openC pre x = openC pre e := by unfold openC; rw [countL_congr (alikeE_iff.1 ha), countL_congr (alikeE_iff.1 ha)]
    have e2 : heldC pre x = heldC pre e := by unfold heldC; rw [countL_congr (alikeE_iff.1 ha), countL_congr (alikeE_iff.1 ha)]
    simp only [if_true]
    constructor
    · by_cases k1 : e.kind = 1
      · rw [if_pos k1]; omega
      · rw [if_neg k1]
        by_cases k2 : e.kind = 2 ∨ e.kind = 3
        · have := h1 k2
          rw [if_pos k2]; omega
        · rw [if_neg k2]; omega
    · by_cases k1 : e.kind = 4
      · rw [if_pos k1]; omega
      · rw [if_neg k1]
        by_cases k2 : e.kind = 5 ∨ e.kind = 6
        · have := h2 k2
          rw [if_pos k2]; omega
        · rw [if_neg k2]; omega

theorem openC_alike {x : Ent} (ha : alikeE true x e = true) : openC pre x = openC pre e := by unfold openC; rw [countL_congr (alikeE_iff.1 ha), countL_congr (alikeE_iff.1 ha)]
theorem heldC_alike {x : Ent} (ha : alikeE true x e = true) : heldC pre x = heldC pre e := by unfold heldC; rw [countL_congr (alikeE_iff.1 ha), countL_congr (alikeE_iff.1 ha)]
/-- How a tally's counts go on, in the form of a step. -/
theorem openC_step {k : Int} (hk : k = openC pre e + (if e.kind = 1 then 1 else if e.kind = 2 ∨ e.kind = 3 then -1 else 0)) (x : Ent) : openC (pre ++ [e]) x = if alikeE true x e = true then k else openC pre x := by
  rw [openC_snoc]
  cases ha : alikeE true x e with
  | false => simp
  | true => rw [hk, openC_alike ha]; simp
theorem heldC_step {k : Int} (hk : k = heldC pre e + (if e.kind = 4 then 1 else if e.kind = 5 ∨ e.kind = 6 then -1 else 0)) (x : Ent) : heldC (pre ++ [e]) x = if alikeE true x e = true then k else heldC pre x := by
  rw [heldC_snoc]
  cases ha : alikeE true x e with
  | false => simp
  | true => rw [hk, heldC_alike ha]; simp
theorem openC_same (hk : ¬ e.kind = 1) (hk2 : ¬ (e.kind = 2 ∨ e.kind = 3)) (x : Ent) : openC (pre ++ [e]) x = openC pre x := by
  rw [openC_snoc, if_neg hk, if_neg hk2]; simp
theorem heldC_same (hk : ¬ e.kind = 4) (hk2 : ¬ (e.kind = 5 ∨ e.kind = 6)) (x : Ent) : heldC (pre ++ [e]) x = heldC pre x := by
  rw [heldC_snoc, if_neg hk, if_neg hk2]; simp
theorem backC_same (hk : ¬ e.kind = 6) (m : Int) : backC (pre ++ [e]) m = backC pre m := by
  rw [backC_snoc, if_neg (fun h => hk h.2)]; omega
theorem sentL_same (hk : ¬ e.kind = 1) (m : Int) : sentL (pre ++ [e]) m = sentL pre m := by
  rw [sentL_snoc, if_neg (fun h => hk h.2)]; simp

theorem JI.told (h : JI S B2 w0 qs pre W) (hk : e.kind = 2 ∨ e.kind = 3) (hp : 0 < openC pre e) {f : Value → Value} (hf : ∀ x, f (alikeV x) = .int .i64 (openC pre x)) (hg : W.grownBy W' (some (S + 1))) (hM : MapV W' 55 (S + 1) (pre.length + 1) (.int .i64 0) (upd f (alikeV e) (.int .i64 (openC pre e - 1)))) : JI S B2 w0 qs (pre ++ [e]) W' := by
  have hlo := h.lo
  have hsz := h.size
  have hr : ∀ {P : Nat → Prop}, P (S + 1) → ∀ r, some (S + 1) = some r → P r := fun hp r e => by have := Option.some.inj e; subst this; exact hp
  refine ⟨h.below.grown hg (by omega) (hr (by omega)), h.from_, h.lo, Nat.le_trans h.size hg.size, (hg.block _ (by omega) (by simp)).trans h.box, h.dead.kept hg (by simp) (hr (by omega)), ?_, ?_, ?_, ?_, fine_snoc h.fine (fun _ => hp) (fun hk2 => by omega)⟩
  · rw [snoc_len]; exact JTal.step hf hM (openC_step (by rw [if_neg (by omega), if_pos hk]; omega))
  · rw [snoc_len]; exact ((h.held.kept hg (by simp)).mono (Nat.le_succ _)).congr (heldC_same (by omega) (by omega))
  · rw [snoc_len]; exact ((h.sent.kept hg (by simp) (hr (by omega))).mono (Nat.le_succ _)).congr (sentL_same (by omega))
  · rw [snoc_len]; exact ((h.back.kept hg (by simp)).mono (Nat.le_succ _)).congr (backC_same (by omega))

theorem JI.done (h : JI S B2 w0 qs pre W) (hk : e.kind = 5) (hp : 0 < heldC pre e) {f : Value → Value} (hf : ∀ x, f (alikeV x) = .int .i64 (heldC pre x)) (hg : W.grownBy W' (some (S + 2))) (hM : MapV W' 55 (S + 2) (pre.length + 1) (.int .i64 0) (upd f (alikeV e) (.int .i64 (heldC pre e - 1)))) : JI S B2 w0 qs (pre ++ [e]) W' := by
  have hlo := h.lo
  have hsz := h.size
  have hr : ∀ {P : Nat → Prop}, P (S + 2) → ∀ r, some (S + 2) = some r → P r := fun hp r e => by have := Option.some.inj e; subst this; exact hp
  refine ⟨h.below.grown hg (by omega) (hr (by omega)), h.from_, h.lo, Nat.le_trans h.size hg.size, (hg.block _ (by omega) (by simp)).trans h.box, h.dead.kept hg (by simp) (hr (by omega)), ?_, ?_, ?_, ?_, fine_snoc h.fine (fun _ => by omega) (fun hk2 => hp)⟩
  · rw [snoc_len]; exact ((h.open_.kept hg (by simp)).mono (Nat.le_succ _)).congr (openC_same (by omega) (by omega))
  · rw [snoc_len]; exact JTal.step hf hM (heldC_step (by rw [if_neg (by omega), if_pos (by omega)]; omega))
  · rw [snoc_len]; exact ((h.sent.kept hg (by simp) (hr (by omega))).mono (Nat.le_succ _)).congr (sentL_same (by omega))
  · rw [snoc_len]; exact ((h.back.kept hg (by simp)).mono (Nat.le_succ _)).congr (backC_same (by omega))

theorem JI.gave (h : JI S B2 w0 qs pre W) {W1 : World} (hk : e.kind = 6) (hp : 0 < heldC pre e) {f fb : Value → Value} (hf : ∀ x, f (alikeV x) = .int .i64 (heldC pre x)) (hfb : ∀ m, fb (.int .i64 m) = .int .i64 (backC pre m)) (hg : W.grownBy W1 (some (S + 2))) (hM : MapV W1 55 (S + 2) (pre.length + 1) (.int .i64 0) (upd f (alikeV e) (.int .i64 (heldC pre e - 1))))
    (hg2 : W1.grownBy W' (some (S + 4))) (hM2 : MapV W' 3 (S + 4) (pre.length + 1) (.int .i64 0) (upd fb (.int .i64 e.msg) (.int .i64 (backC pre e.msg + 1)))) : JI S B2 w0 qs (pre ++ [e]) W' := by
  have hlo := h.lo
  have hsz := h.size
  have hs1 := hg.size
  have hr : ∀ {P : Nat → Prop}, P (S + 2) → ∀ r, some (S + 2) = some r → P r := fun hp r e => by have := Option.some.inj e; subst this; exact hp
  have hr2 : ∀ {P : Nat → Prop}, P (S + 4) → ∀ r, some (S + 4) = some r → P r := fun hp r e => by have := Option.some.inj e; subst this; exact hp
  refine ⟨(h.below.grown hg (by omega) (hr (by omega))).grown hg2 (by omega) (hr2 (by omega)), h.from_, h.lo, Nat.le_trans h.size (Nat.le_trans hg.size hg2.size), (hg2.block _ (by omega) (by simp)).trans ((hg.block _ (by omega) (by simp)).trans h.box),
    (h.dead.kept hg (by simp) (hr (by omega))).kept hg2 (by simp) (hr2 (by omega)), ?_, ?_, ?_, ?_, fine_snoc h.fine (fun _ => by omega) (fun hk2 => hp)⟩
  · rw [snoc_len]; exact (((h.open_.kept hg (by simp)).kept hg2 (by simp)).mono (Nat.le_succ _)).congr (openC_same (by omega) (by omega))
  · rw [snoc_len]; exact (JTal.step hf hM (heldC_step (by rw [if_neg (by omega), if_pos (by omega)]; omega))).kept hg2 (by simp)
  · rw [snoc_len]; exact (((h.sent.kept hg (by simp) (hr (by omega))).kept hg2 (by simp) (hr2 (by omega))).mono (Nat.le_succ _)).congr (sentL_same (by omega))
  · rw [snoc_len]; exact JBack.step hfb hM2 fun m => by
      rw [backC_snoc]
      by_cases hm : m = e.msg
      · subst hm; rw [if_pos ⟨rfl, hk⟩, if_pos rfl]
      · rw [if_neg (fun h => hm h.1.symm), if_neg hm]; omega

theorem JI.got (h : JI S B2 w0 qs pre W) (hk : e.kind = 4) {f : Value → Value} (hf : ∀ x, f (alikeV x) = .int .i64 (heldC pre x)) (hg : W.grownBy W' (some (S + 2))) (hM : MapV W' 55 (S + 2) (pre.length + 1) (.int .i64 0) (upd f (alikeV e) (.int .i64 (heldC pre e + 1)))) : JI S B2 w0 qs (pre ++ [e]) W' := by
  have hlo := h.lo
  have hsz := h.size
  have hr : ∀ {P : Nat → Prop}, P (S + 2) → ∀ r, some (S + 2) = some r → P r := fun hp r e => by have := Option.some.inj e; subst this; exact hp
  refine ⟨h.below.grown hg (by omega) (hr (by omega)), h.from_, h.lo, Nat.le_trans h.size hg.size, (hg.block _ (by omega) (by simp)).trans h.box, h.dead.kept hg (by simp) (hr (by omega)), ?_, ?_, ?_, ?_, fine_snoc h.fine (fun _ => by omega) (fun hk2 => by omega)⟩
  · rw [snoc_len]; exact ((h.open_.kept hg (by simp)).mono (Nat.le_succ _)).congr (openC_same (by omega) (by omega))
  · rw [snoc_len]; exact JTal.step hf hM (heldC_step (by rw [if_pos hk]))
  · rw [snoc_len]; exact ((h.sent.kept hg (by simp) (hr (by omega))).mono (Nat.le_succ _)).congr (sentL_same (by omega))
  · rw [snoc_len]; exact ((h.back.kept hg (by simp)).mono (Nat.le_succ _)).congr (backC_same (by omega))

theorem JI.crash (h : JI S B2 w0 qs pre W) (hk : e.kind = 7) : JI S B2 w0 qs (pre ++ [e]) W := by
  refine ⟨h.below, h.from_, h.lo, h.size, h.box, h.dead, ?_, ?_, ?_, ?_, fine_snoc h.fine (fun _ => by omega) (fun hk2 => by omega)⟩
  · rw [snoc_len]; exact (h.open_.mono (Nat.le_succ _)).congr (openC_same (by omega) (by omega))
  · rw [snoc_len]; exact (h.held.mono (Nat.le_succ _)).congr (heldC_same (by omega) (by omega))
  · rw [snoc_len]; exact (h.sent.mono (Nat.le_succ _)).congr (sentL_same (by omega))
  · rw [snoc_len]; exact (h.back.mono (Nat.le_succ _)).congr (backC_same (by omega))

theorem JI.sent_ (h : JI S B2 w0 qs pre W) (hk : e.kind = 1) {f fs : Value → Value} {v : Value} (hf : ∀ x, f (alikeV x) = .int .i64 (openC pre x)) (hfs : fs (.int .i64 e.msg) = v) (hM : MapV W 3 (S + 3) pre.length (.slice none 0 0) fs)
    (h2 : ∀ m, W.ownsRow B2 55 6 (fs (.int .i64 m)) (sentL pre m).length (cellsOf (sentL pre m))) (h3 : ∀ m m', m ≠ m' → ∀ g, (fs (.int .i64 m)).ownBlock = some g → (fs (.int .i64 m')).ownBlock ≠ some g)
    (hp : SentPost S B2 pre.length pre.length f fs (openC pre e) e (sentL pre e.msg) v W W') : JI S B2 w0 qs (pre ++ [e]) W' := by
  subst hfs
  obtain ⟨w7, w9, tmp, v', g1, m1, m2, g2, o1, a1, m3, g3⟩ := hp
  have hlo := h.lo
  have hsz := h.size
  have hr : ∀ n {P : Nat → Prop}, P n → ∀ r, some n = some r → P r := fun n _ hp r e => by have := Option.some.inj e; subst this; exact hp
  have hW := h.later (W2of_below W e)
  have hs2 := hW.size
  have s7 := g1.size
  have s9 := g2.size
  simp only [World.size_alloc] at s9
  have hv : ∀ r, (fs (.int .i64 e.msg)).ownBlock = some r → B2 ≤ r := fun r hr => (World.ownsRow.lt (h2 e.msg) r hr).1
  have hvn : ∀ r, r < B2 → some r ≠ (fs (.int .i64 e.msg)).ownBlock := fun r hr e2 => by have := hv r e2.symm; omega
  have gA := World.grownBy_alloc w7 tmp none
  have b7 := hW.below.grown g1 (by omega) (hr (S + 1) (by omega))
  have b8 := b7.alloc (by omega) tmp
  have b9 := b8.grown g2 (by simp; omega) (fun r e2 => by have := hv r e2; omega)
  refine ⟨b9.grown g3 (by omega) (hr (S + 3) (by omega)), h.from_, h.lo, ?_, ?_, ?_, ?_, ?_, ?_, ?_, fine_snoc h.fine (fun _ => by omega) (fun _ => by omega)⟩
  · have := g3.size; omega
  · exact (g3.block _ (by omega) (by simp)).trans ((g2.block _ (by simp; omega) (hvn _ (by omega))).trans ((Below.heap_alloc w7 tmp _ (by omega)).trans ((g1.block _ (by omega) (by simp)).trans hW.box)))
  · exact (((hW.dead.kept g1 (by simp) (hr (S + 1) (by omega))).kept gA (by simp) (by simp)).kept g2 (hvn _ (by omega)) (fun r e2 => .inr (hv r e2))).kept g3 (by simp) (hr (S + 3) (by omega))
  · rw [snoc_len]
    exact (((JTal.step (c' := openC (pre ++ [e])) hf m1 (openC_step (by rw [if_pos hk]))).kept gA (by simp)).kept g2 (hvn _ (by omega))).kept g3 (by simp)
  · rw [snoc_len]
    exact (((((hW.held.kept g1 (by simp)).kept gA (by simp)).kept g2 (hvn _ (by omega))).kept g3 (by simp)).mono (Nat.le_succ _)).congr (heldC_same (by omega) (by omega))
  · rw [snoc_len]
    have h2' : ∀ m, w7.ownsRow B2 55 6 (fs (.int .i64 m)) (sentL pre m).length (cellsOf (sentL pre m)) := fun m => by
      refine ownsRow_kept (ownsRow_belowJ (h2 m) (W2of_below W e) fun g hg => (World.ownsRow.lt (h2 m) g hg).2) g1 fun r e2 hb => ?_
      have := Option.some.inj e2
      have := (World.ownsRow.lt (h2 m) r hb).1
      omega
    refine JSent.step (by omega) (by omega) m2 h2' h3 g2 o1 a1 m3 g3 fun m => ?_
    rw [sentL_snoc]
    by_cases hm : m = e.msg
    · subst hm; rw [if_pos ⟨rfl, hk⟩, if_pos rfl]
    · rw [if_neg (fun h => hm h.1.symm), if_neg hm]; simp
  · rw [snoc_len]
    exact (((((hW.back.kept g1 (by simp)).kept gA (by simp)).kept g2 (hvn _ (by omega))).kept g3 (by simp)).mono (Nat.le_succ _)).congr (backC_same (by omega))
end

end Go.Proofs.Ytgincippgaecfaa.Au

namespace Go.Proofs.Ytgincippgaecfaa.Au
open Go Go.RowKit

/-- What wrong answers and leaves. -/
def WrongPost (S B2 : Nat) (w0 : World) (qs : List Qc) (pre : List Ent) (e : Ent) (n : Nat) (r : Ending) (W' : World) : Prop := r = .returned (.int .i64 n) ∧ Below S w0 W' ∧ (n = 0 → JI S B2 w0 qs (pre ++ [e]) W')

section
variable {S B2 : Nat} {w0 W : World} {qs : List Qc} {pre : List Ent}

theorem openC_hi (pre : List Ent) (e : Ent) : openC pre e ≤ pre.length := by
  unfold openC; have := countL_le pre e 1 1 true; omega
theorem heldC_hi (pre : List Ent) (e : Ent) : heldC pre e ≤ pre.length := by
  unfold heldC; have := countL_le pre e 4 4 true; omega

theorem pwrong_any (e : Ent) (h : JI S B2 w0 qs pre W) (hlen : pre.length < 400) (he : EntOk e) (hp : ∀ x ∈ pre, EntOk x) (hq : qs.length * 56 ≤ 140737488351232) :
    Calls Try.prog 21 #[.pointer (some ⟨S + 5, 0, none⟩), e.val] W (WrongPost S B2 w0 qs pre e (wrongL qs pre e)) := by
  obtain ⟨j0, j1, j2, j3, j4⟩ := h.cellsJ
  have hlt := h.lt
  have hlo := h.lo
  have hsz := h.size
  have hn : pre.length < maxLen := by unfold maxLen; omega
  have hbel : ∀ {W'}, Below W.heap.size W W' → Below S w0 W' := fun hb => h.below.trans (hb.mono (by omega))
  obtain ⟨fo, hMo, hfo⟩ := h.open_
  obtain ⟨fh, hMh, hfh⟩ := h.held
  obtain ⟨fs, hMs, hrs, hap⟩ := h.sent
  obtain ⟨fb, hMb, hfb⟩ := h.back
  have hfine := h.fine e
  have ho1 := openC_hi pre e
  have hh1 := heldC_hi pre e
  have hbk := fun m => backC_le pre m
  have hkey := he.key
  obtain ⟨ek, ew, eq, em, ec, ed⟩ := e
  rcases okE_kind he.ok with hk | hk | hk | hk | hk | hk | hk <;> simp only at hk <;> subst hk
  · -- sent
    rw [wrongL_sent (.inl rfl)]
    refine (sent_any S B2 pre.length pre.length fo fs (openC pre ⟨1, ew, eq, em, ec, ed⟩) ew em ec eq ed (sentL pre em) (fs (.int .i64 em)) W j1 j3 hlt hMo hn hkey (hfo _) hfine.1 (by omega) hMs hn he.msg rfl (hrs em) (by have := sentL_len pre em; omega) hsz hlo).mono ?_
    rintro r W' ⟨rfl, hP⟩
    have hJ := h.sent_ rfl hfo rfl hMs hrs hap hP
    exact ⟨rfl, hJ.below, fun _ => hJ⟩
  · -- taken
    rw [wrongL_told hp he (.inl rfl)]
    by_cases hpos : 0 < openC pre ⟨2, ew, eq, em, ec, ed⟩
    · rw [if_pos hpos]
      refine (told2_yes S pre.length fo _ ew em ec eq ed W j1 hlt hMo hn hkey (hfo _) hpos (by omega)).mono ?_
      rintro r W' ⟨rfl, hg, hM⟩
      have hJ := h.told (.inl rfl) hpos hfo hg hM
      exact ⟨rfl, hJ.below, fun _ => hJ⟩
    · rw [if_neg hpos]
      refine (told2_no S pre.length fo ew em ec eq ed W j1 hlt hMo hkey (by rw [hfo]; congr 1; omega)).mono ?_
      rintro r W' ⟨rfl, hb⟩
      exact ⟨rfl, hbel hb, fun e => by cases e⟩
  · -- refused
    rw [wrongL_told hp he (.inr rfl)]
    by_cases hpos : 0 < openC pre ⟨3, ew, eq, em, ec, ed⟩
    · rw [if_pos hpos]
      refine (told3_yes S pre.length fo _ ew em ec eq ed W j1 hlt hMo hn hkey (hfo _) hpos (by omega)).mono ?_
      rintro r W' ⟨rfl, hg, hM⟩
      have hJ := h.told (.inr rfl) hpos hfo hg hM
      exact ⟨rfl, hJ.below, fun _ => hJ⟩
    · rw [if_neg hpos]
      refine (told3_no S pre.length fo ew em ec eq ed W j1 hlt hMo hkey (by rw [hfo]; congr 1; omega)).mono ?_
      rintro r W' ⟨rfl, hb⟩
      exact ⟨rfl, hbel hb, fun e => by cases e⟩
  · -- got
    rw [wrongL_got rfl]
    have hW := h.later (W2of_below W ⟨4, ew, eq, em, ec, ed⟩)
    obtain ⟨N, fd, hD, _⟩ := hW.dead
    obtain ⟨k0, _, _, k3, k4⟩ := hW.cellsJ
    have hrow := hrs em
    have hist : HistAt (W2of W ⟨4, ew, eq, em, ec, ed⟩).heap.size (W2of W ⟨4, ew, eq, em, ec, ed⟩) (fs (.int .i64 em)) (sentL pre em) := by
      have hrow2 := ownsRow_belowJ hrow (W2of_below W ⟨4, ew, eq, em, ec, ed⟩) fun g hg => (World.ownsRow.lt hrow g hg).2
      rcases Nat.eq_zero_or_pos (sentL pre em).length with h0 | h0
      · rcases hrow2.2 with ⟨h1, _⟩ | ⟨g, cap, cur, h1, _⟩
        · exact .inl ⟨none, 0, h1, List.length_eq_zero_iff.1 h0⟩
        · exact .inl ⟨_, _, by rw [h1, h0], List.length_eq_zero_iff.1 h0⟩
      · rcases hrow2.2 with ⟨_, h1⟩ | ⟨g, cap, cur, h1, _⟩
        · omega
        · rw [h1] at hrow2 ⊢
          obtain ⟨⟨hF, _⟩, _, _, _, hg⟩ := FromAt.of_own rfl hrow2
          refine .inr ⟨g, 0, cap, rfl, hg, fun i e he => ?_⟩
          rw [Nat.zero_add]
          exact hF i e (Nat.zero_le _) he
    have hg := pgot_any (S + 6) S N (S + 5) (S + 3) (S + 4) pre.length pre.length fd fs fb qs (sentL pre em) (backC pre em) ⟨4, ew, eq, em, ec, ed⟩ (W2of W ⟨4, ew, eq, em, ec, ed⟩) hq k0 k3 k4 hW.lt hD (hMs.below (W2of_below W _) hMs.lt) hist (hMb.below (W2of_below W _) hMb.lt) (hfb em)
      (fun x hx => (hp x (List.mem_filter.1 hx).1).queue) (by have := sentL_len pre em; omega) he.msg
    generalize hgv : gotA qs (sentL pre em) (backC pre em) ⟨4, ew, eq, em, ec, ed⟩ = gv at hg ⊢
    by_cases h0 : gv = 0
    · subst h0
      refine (got_yesJ S pre.length fh _ ew em ec eq ed W j2 hlt hMh hn hkey (hfh _) hfine.2 (by omega) hg).mono ?_
      rintro r W' ⟨rfl, W1, hb1, hg1, hM1⟩
      have hJ1 := h.later hb1
      have hJ := hJ1.got rfl hfh hg1 hM1
      exact ⟨rfl, hJ.below, fun _ => hJ⟩
    · refine (got_no S gv ew em ec eq ed W (by omega) hg).mono ?_
      rintro r W' ⟨rfl, hb⟩
      exact ⟨rfl, hbel hb, fun e => absurd e h0⟩
  · -- done
    rw [wrongL_done (.inl rfl)]
    by_cases hpos : 0 < heldC pre ⟨5, ew, eq, em, ec, ed⟩
    · rw [if_pos hpos]
      refine (done5_yes S pre.length fh _ ew em ec eq ed W j2 hlt hMh hn hkey (hfh _) hpos (by omega)).mono ?_
      rintro r W' ⟨rfl, hg, hM⟩
      have hJ := h.done rfl hpos hfh hg hM
      exact ⟨rfl, hJ.below, fun _ => hJ⟩
    · rw [if_neg hpos]
      refine (done5_no S pre.length fh ew em ec eq ed W j2 hlt hMh hkey (by rw [hfh]; congr 1; omega)).mono ?_
      rintro r W' ⟨rfl, hb⟩
      exact ⟨rfl, hbel hb, fun e => by cases e⟩
  · -- back
    rw [wrongL_done (.inr rfl)]
    by_cases hpos : 0 < heldC pre ⟨6, ew, eq, em, ec, ed⟩
    · rw [if_pos hpos]
      refine (back6_yes S pre.length fh _ ew em ec eq ed W j2 hlt hMh hn hkey (hfh _) hpos (by omega) fb pre.length (backC pre em) hMb hn (hfb em) (hbk em).1 (by have := hbk em; omega) he.msg j4).mono ?_
      rintro r W' ⟨rfl, W1, ⟨hg, hM⟩, hg2, hM2⟩
      have hJ := h.gave rfl hpos hfh hfb hg hM hg2 hM2
      exact ⟨rfl, hJ.below, fun _ => hJ⟩
    · rw [if_neg hpos]
      refine (back6_no S pre.length fh ew em ec eq ed W j2 hlt hMh hkey (by rw [hfh]; congr 1; omega)).mono ?_
      rintro r W' ⟨rfl, hb⟩
      exact ⟨rfl, hbel hb, fun e => by cases e⟩
  · -- crash
    rw [wrongL_sent (.inr rfl)]
    refine (crash_any _ ew em ec eq ed W).mono ?_
    rintro r W' ⟨rfl, hb⟩
    exact ⟨rfl, hbel hb, fun _ => (h.later hb).crash rfl⟩
end

end Go.Proofs.Ytgincippgaecfaa.Au
