/-
  The program's wrong: its walk at something sent. No condition but what the judge holds.
-/
import Derived.Test.YtgincippgaecfaaJ16
import Derived.Deep.RegionHeld3
import Derived.Deep.AppendLies
import Derived.Deep.DrawnRows
namespace Go.Proofs.Ytgincippgaecfaa.Au
open Go Go.RowKit
attribute [local go_sem ↓] Go.wp_at_zero Go.wp_at_succ

theorem cellsFar {A B : World} {row : Option Nat} {S E : Nat} {e : Ent} (hg : A.grownBy B row) (hS : S + 5 < A.heap.size) (hE : E < A.heap.size) (hr : row ≠ some (S + 5)) (hr2 : row ≠ some E)
    (h : A.cell? ⟨S + 5, 3, none⟩ = some (.map (some (S + 3))) ∧ A.cell? ⟨E, 0, none⟩ = some (.int .i64 e.kind) ∧ A.cell? ⟨E, 1, none⟩ = some (.int .i64 e.who) ∧ A.cell? ⟨E, 2, none⟩ = some (.string e.queue) ∧ A.cell? ⟨E, 3, none⟩ = some (.int .i64 e.msg) ∧ A.cell? ⟨E, 4, none⟩ = some (.int .i64 e.count) ∧ A.cell? ⟨E, 5, none⟩ = some (.bool e.dur)) :
    B.cell? ⟨S + 5, 3, none⟩ = some (.map (some (S + 3))) ∧ B.cell? ⟨E, 0, none⟩ = some (.int .i64 e.kind) ∧ B.cell? ⟨E, 1, none⟩ = some (.int .i64 e.who) ∧ B.cell? ⟨E, 2, none⟩ = some (.string e.queue) ∧ B.cell? ⟨E, 3, none⟩ = some (.int .i64 e.msg) ∧ B.cell? ⟨E, 4, none⟩ = some (.int .i64 e.count) ∧ B.cell? ⟨E, 5, none⟩ = some (.bool e.dur) := by
  obtain ⟨h0, h1, h2, h3, h4, h5, h6⟩ := h
  have k : ∀ o, B.cell? ⟨E, o, none⟩ = A.cell? ⟨E, o, none⟩ := fun o => hg.cell_far ⟨E, o, none⟩ hE (Ne.symm hr2)
  exact ⟨(hg.cell_far ⟨S + 5, 3, none⟩ hS (Ne.symm hr)).trans h0, (k 0).trans h1, (k 1).trans h2, (k 2).trans h3, (k 3).trans h4, (k 4).trans h5, (k 5).trans h6⟩

theorem info55' : ∃ i0, Try.prog.info? 55 = some i0 ∧ i0.zero = some (.agg #[.int .i64 0, .int .i64 0, .string ⟨#[]⟩, .int .i64 0, .int .i64 0, .bool false]) ∧ i0.size = 6 ∧ i0.bytes = 56 := info_parts info55

/-- What wrong leaves behind something sent. -/
def SentPost (S B2 n ns : Nat) (f fs : Value → Value) (x : Int) (e : Ent) (xs : List Ent) (v : Value) (W W' : World) : Prop :=
  ∃ (w7 w9 : World) (tmp : Obj) (v' : Value), (W2of W e).grownBy w7 (some (S + 1)) ∧ MapV w7 55 (S + 1) (n + 1) (.int .i64 0) (upd f (alikeV e) (.int .i64 (x + 1))) ∧ MapV w7 3 (S + 3) ns (.slice none 0 0) fs ∧ (w7.alloc tmp).grownBy w9 v.ownBlock ∧
    w9.ownsRow B2 55 6 v' (xs.length + 1) (cellsOf (xs ++ [e])) ∧ (∀ g, v'.ownBlock = some g → v.ownBlock = some g ∨ w7.heap.size ≤ g) ∧ MapV W' 3 (S + 3) (ns + 1) (.slice none 0 0) (upd fs (.int .i64 e.msg) v') ∧ w9.grownBy W' (some (S + 3))

set_option maxRecDepth 100000 in
set_option maxHeartbeats 8000000 in
theorem sent_any (S B2 n ns : Nat) (f fs : Value → Value) (x : Int) (who m c : Int) (q : ByteArray) (d : Bool) (xs : List Ent) (v : Value) (W : World) (hj1 : W.cell? ⟨S + 5, 1, none⟩ = some (.map (some (S + 1)))) (hj3 : W.cell? ⟨S + 5, 3, none⟩ = some (.map (some (S + 3)))) (hlt : S + 5 < W.heap.size)
    (hM : MapV W 55 (S + 1) n (.int .i64 0) f) (hn : n < maxLen) (hk : KeyOk 55 (alikeV ⟨1, who, q, m, c, d⟩)) (hf : f (alikeV ⟨1, who, q, m, c, d⟩) = .int .i64 x) (h0 : 0 ≤ x) (h1 : x ≤ 1000)
    (hMs : MapV W 3 (S + 3) ns (.slice none 0 0) fs) (hns : ns < maxLen) (hm : (Lit.int .i64 m).wf = true) (hfs : fs (.int .i64 m) = v) (hown : W.ownsRow B2 55 6 v xs.length (cellsOf xs)) (hxs : xs.length ≤ 400) (hB2 : B2 ≤ W.heap.size) (hSB : S + 6 ≤ B2) :
    Calls Try.prog 21 #[.pointer (some ⟨S + 5, 0, none⟩), .agg #[.int .i64 1, .int .i64 who, .string q, .int .i64 m, .int .i64 c, .bool d]] W fun r W' => r = .returned (.int .i64 0) ∧ SentPost S B2 n ns f fs x ⟨1, who, q, m, c, d⟩ xs v W W' := by
  have hB := W2of_below W ⟨1, who, q, m, c, d⟩
  have hz := W2of_size W ⟨1, who, q, m, c, d⟩
  have hj12 := (hB.cell (p := ⟨S + 5, 1, none⟩) hlt).trans hj1
  have hj32 := (hB.cell (p := ⟨S + 5, 3, none⟩) hlt).trans hj3
  have hM2 := (hM.below hB hM.lt).drew
  obtain ⟨v0, st, w6, hme, hm6, hg6, hst⟩ := hM2.entry law55 Try.underlying61 zero3 hn hk
  have hlk := hM2.look keyed55 Try.underlying61 (zero3 _) hk
  have hlk6 := hm6.look keyed55 Try.underlying61 (zero3 _) hk
  rw [hf] at hlk hlk6
  obtain ⟨w7, hes, hg7, hm7⟩ := hst w6 (.int .i64 (x + 1)) rfl
  have hes' : (Instr.entryStore 61 (.map (some (S + 1))) (.int .i64 st) (.int .i64 (x + 1))).run Try.prog w6 = .ok () w7 := hes
  unfold alikeV at hme hlk hlk6
  have hG : (W2of W ⟨1, who, q, m, c, d⟩).grownBy w7 (some (S + 1)) := (Grow.drew _ _).trans (hg6.trans hg7)
  have hL7 := cellsFar (S := S) (E := W.heap.size) (e := ⟨1, who, q, m, c, d⟩) hG (by omega) (by omega) (by simp) (by simp; omega) ⟨hj32, by simp [W2of], by simp [W2of], by simp [W2of], by simp [W2of], by simp [W2of], by simp [W2of]⟩
  have hMs7 := ((hMs.below hB hMs.lt).kept hG (by simp))
  have hz7 := hG.size
  rw [hz] at hz7
  have hve : v.ownBlock ≠ some W.heap.size := fun e => by
    have := (World.ownsRow.lt hown _ e).2
    omega
  have hown7 := (ownsRow_kept (ownsRow_belowJ hown hB fun g hg => (World.ownsRow.lt hown g hg).2) hG fun r e hb => by
    have := Option.some.inj e
    have := (World.ownsRow.lt hown r hb).1
    omega)
  have hl7 := hMs7.drew.look keyed3 Try.underlying62 (zero23 _) (key3 hm)
  have hl8 := ((hMs7.alloc (.cells #[.int .i64 1, .int .i64 who, .string q, .int .i64 m, .int .i64 c, .bool d] 55)).drew).look keyed3 Try.underlying62 (zero23 _) (key3 hm)
  rw [hfs] at hl7 hl8
  obtain ⟨c0, c1, c2, c3, c4, c5, c6⟩ := hL7
  simp only at c1 c2 c3 c4 c5 c6
  obtain ⟨i0, hi, hz0, hz1, hz2⟩ := info55'
  have HG := Lib.hid (And.intro hG (hm7 _ (upd_same _ _ _) fun y hy => upd_other _ _ _ hy))
  have HMS := Lib.hid hMs7
  have HK := Lib.hid hm
  have hown8 : ((w7.drew).alloc (.cells #[.int .i64 1, .int .i64 who, .string q, .int .i64 m, .int .i64 c, .bool d] 55)).ownsRow B2 55 6 v xs.length (cellsOf xs) := World.ownsRow.alloc (ownsRow_block (B := w7.drew) hown7 fun _ _ => rfl) _
  have HO := Lib.hid hown8
  have hvb : ∀ r, r < B2 → v.ownBlock ≠ some r := fun r hr e => by
    have := (World.ownsRow.lt hown8 r e).1
    omega
  have hx1 : xs.length + 1 ≤ maxLen := by unfold maxLen; omega
  have hx2 : (xs.length + 1) * 56 ≤ 140737488355328 := by omega
  have hb9 : B2 ≤ ((w7.drew).alloc (.cells #[.int .i64 1, .int .i64 who, .string q, .int .i64 m, .int .i64 c, .bool d] 55)).heap.size := by simp; omega
  have hone : ∀ u ∈ [Value.int .i64 1, .int .i64 who, .string q, .int .i64 m, .int .i64 c, .bool d], u.oneCell' = true := by
    intro u hu
    simp at hu
    rcases hu with rfl | rfl | rfl | rfl | rfl | rfl <;> rfl
  unfold W2of at hj12 hj32 hme hlk
  clear hM hk hf hst hes hm7 hG hMs hMs7 hown hown7 hj1 hj3 hm6 hg6 hg7 hM2 hm hfs hown8
  go_enter Try.func21, Try.ntmps21
  go_wp2
  go_region
  all_goals go_wp2
  all_goals go_region_held3 (fun w' => w'.cell? ⟨S + 5, 3, none⟩ = some (.map (some (S + 3))) ∧ w'.cell? ⟨W.heap.size, 0, none⟩ = some (.int .i64 1) ∧ w'.cell? ⟨W.heap.size, 1, none⟩ = some (.int .i64 who) ∧ w'.cell? ⟨W.heap.size, 2, none⟩ = some (.string q) ∧ w'.cell? ⟨W.heap.size, 3, none⟩ = some (.int .i64 m) ∧ w'.cell? ⟨W.heap.size, 4, none⟩ = some (.int .i64 c) ∧ w'.cell? ⟨W.heap.size, 5, none⟩ = some (.bool d))
    (first
      | go_keep
      | exact ⟨c0, c1, c2, c3, c4, c5, c6⟩
      | assumption
      | exact cellsFar (e := ⟨1, who, q, m, c, d⟩) (World.grownBy_alloc _ _ none) (by simp; omega) (by simp; omega) (by simp) (by simp) (by assumption)
      | exact cellsFar (e := ⟨1, who, q, m, c, d⟩) hg10 (by omega) (by omega) (by simp) (by simp; omega) (by assumption)
      | exact cellsFar (e := ⟨1, who, q, m, c, d⟩) hgrow9 (by simp; omega) (by simp; omega) (hvb _ (by omega)) hve (by assumption))
    ((refine step_append_lies _ (by rfl) _ _ _ (by rfl) B2 55 i0 _ 6 56 Try.underlying23 hi hz0 hz1 hz2 rfl (by omega) v xs.length (cellsOf xs) (by rfl) HO.out ⟨w7.heap.size, 0, none⟩ 1 1 [.int .i64 1, .int .i64 who, .string q, .int .i64 m, .int .i64 c, .bool d] (by rfl) rfl (cells_new w7.drew [.int .i64 1, .int .i64 who, .string q, .int .i64 m, .int .i64 c, .bool d] 55) hone (by omega) hx1 hx2 hb9 _ rfl ?_; intro g cap w9 hown9 hgrow9 hat9 hlt9; obtain ⟨w10, hr10, hm10, hg10⟩ := ((HMS.out.drew.alloc _).kept hgrow9 (Ne.symm (hvb (S + 3) (by omega)))).put keyed3 Try.underlying62 hns (key3 HK.out) (.slice (some ⟨g, 0, none⟩) (xs.length + 1) cap); have hz9 := hgrow9.size; simp at hz9))
  all_goals go_wp2
  all_goals go_ret
  all_goals exact ⟨rfl, w7, w9, _, _, HG.out.1, HG.out.2, HMS.out, (Grow.drew _ _).trans hgrow9, by rw [cellsOf_append]; exact hown9, fun g' e => by
    simp only [Value.ownBlock, Option.some.injEq] at e
    subst e
    rcases hat9 with h | h
    · exact .inl h
    · exact .inr (by rw [h]; simp), hm10 _ (upd_same _ _ _) fun y hy => upd_other _ _ _ hy, hg10⟩

end Go.Proofs.Ytgincippgaecfaa.Au
