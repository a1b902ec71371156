/-
  Lent, LentAll: values are laid anew, as their owner lends them. No condition but that they lie so and are not great.
-/
import Derived.Test.YtckggmcjcdkfhaaGreatDoorV2
import Derived.Test.YtckggmcjcdkfhaaGreatDoorNuLnt
import Derived.Laws.MakeOwn
import Derived.Laws.NewBlocks
namespace Go.Proofs.YtckggmcjcdkfhaaGreatDoor.Va
open Go Go.RowKit Go.Proofs.Nu

def LentS (N : Nat) : Prop := ∀ (B : Nat) (lv : Value) (l : List VT) (w : World), LAt B w N lv l → Sms l → B ≤ w.heap.size →
    Calls Tryz.prog 81 #[lv] w fun r w' => ∃ v', r = .returned v' ∧ LentAt w' N w.heap.size w'.heap.size v' l ∧ Below w.heap.size w w'
theorem lsize_alloc (w : World) (o : Obj) : (w.alloc o).heap.size = w.heap.size + 1 := Array.size_push ..
theorem heap_new (w : World) (o : Obj) : (w.alloc o).heap[w.heap.size]? = some o := by
  show (w.heap.push o)[w.heap.size]? = some o
  simp

theorem below_boxes2 (w : World) (o o' : Obj) : Below w.heap.size w ((w.alloc o).alloc o') := ((Below.refl _ _).alloc (Nat.le_refl _) _).alloc (by rw [lsize_alloc]; omega) _
/-- What stands in the two new blocks of Lent, whatever is behind them. -/
theorem lent_box (w : World) (a0 a1 a2 a3 a4 z0 z1 z2 z3 z4 : Value) (T : TypeId) (w' : World) (hb : Below (w.heap.size + 2) ((w.alloc (.cells #[a0, a1, a2, a3, a4] T)).alloc (.cells #[z0, z1, z2, z3, z4] T)) w') :
    (w'.cell? ⟨w.heap.size, 0, none⟩ = some a0 ∧ w'.cell? ⟨w.heap.size, 1, none⟩ = some a1 ∧ w'.cell? ⟨w.heap.size, 2, none⟩ = some a2 ∧ w'.cell? ⟨w.heap.size, 3, none⟩ = some a3 ∧ w'.cell? ⟨w.heap.size, 4, none⟩ = some a4 ∧ w'.frozen? ⟨w.heap.size, 3, none⟩ = false) ∧
    (w'.cell? ⟨w.heap.size + 1, 0, none⟩ = some z0 ∧ w'.cell? ⟨w.heap.size + 1, 1, none⟩ = some z1 ∧ w'.cell? ⟨w.heap.size + 1, 2, none⟩ = some z2 ∧ w'.cell? ⟨w.heap.size + 1, 3, none⟩ = some z3 ∧ w'.cell? ⟨w.heap.size + 1, 4, none⟩ = some z4) ∧
    (w'.frozen? ⟨w.heap.size + 1, 0, none⟩ = false ∧ w'.frozen? ⟨w.heap.size + 1, 1, none⟩ = false ∧ w'.frozen? ⟨w.heap.size + 1, 2, none⟩ = false ∧ w'.frozen? ⟨w.heap.size + 1, 3, none⟩ = false ∧ w'.frozen? ⟨w.heap.size + 1, 4, none⟩ = false) ∧
    w'.heap[w.heap.size + 1]? = some (.cells #[z0, z1, z2, z3, z4] T (0, 0)) := by
  have h0 : w'.heap[w.heap.size]? = some (.cells #[a0, a1, a2, a3, a4] T (0, 0)) := (hb.block _ (by omega)).trans ((Below.heap_alloc _ _ _ (by rw [lsize_alloc]; omega)).trans (heap_new _ _))
  have h1 : w'.heap[w.heap.size + 1]? = some (.cells #[z0, z1, z2, z3, z4] T (0, 0)) := (hb.block _ (by omega)).trans (by rw [← lsize_alloc w]; exact heap_new _ _)
  refine ⟨⟨?_, ?_, ?_, ?_, ?_, ?_⟩, ⟨?_, ?_, ?_, ?_, ?_⟩, ⟨?_, ?_, ?_, ?_, ?_⟩, h1⟩
  all_goals simp [World.cell?, World.frozen?, h0, h1]

set_option maxRecDepth 100000 in
theorem lent_of {N : Nat} (hS : LentS N) (B : Nat) (k m : Int) (s : ByteArray) (e : Int) (l : List VT) (lv : Value) (w : World) (hl : LAt B w N lv l) (hs : Sms l) (hB : B ≤ w.heap.size) :
    Calls Tryz.prog 35 #[.agg #[.int .i64 k, .int .u64 m, .string s, lv, .int .i64 e]] w fun r w' => ∃ v', r = .returned (.agg #[.int .i64 k, .int .u64 m, .string s, v', .int .i64 e]) ∧ LentAt w' N w.heap.size w'.heap.size v' l ∧ Below w.heap.size w w' := by
  have HC : Hid (∀ w', Below w.heap.size w w' → Calls Tryz.prog 81 #[lv] w' fun r w'' => ∃ v', r = .returned v' ∧ LentAt w'' N w'.heap.size w''.heap.size v' l ∧ Below w'.heap.size w' w'') := fun w' h => hS B lv l w' (hl.below (h.mono hB)) hs (Nat.le_trans hB h.size)
  clear hl hs
  have HBX := Lib.hid (lent_box w (.int .i64 k) (.int .u64 m) (.string s) lv (.int .i64 e) (.int .i64 0) (.int .u64 0) (.string ⟨#[]⟩) (.slice none 0 0) (.int .i64 0) 25)
  go_enter Tryz.func35, Tryz.ntmps35
  go_wp2_with (fail)
  have hbW := Lib.hid ((below_boxes2 w (.cells #[.int .i64 k, .int .u64 m, .string s, lv, .int .i64 e] 25) (.cells #[.int .i64 0, .int .u64 0, .string ⟨#[]⟩, .slice none 0 0, .int .i64 0] 25)))
  have hzW : Hid (((w.alloc (.cells #[.int .i64 k, .int .u64 m, .string s, lv, .int .i64 e] 25)).alloc (.cells #[.int .i64 0, .int .u64 0, .string ⟨#[]⟩, .slice none 0 0, .int .i64 0] 25)).heap.size = w.heap.size + 2) := by show _ = _; rw [lsize_alloc, lsize_alloc]
  obtain ⟨W1, hW1⟩ : ∃ W1, (w.alloc (.cells #[.int .i64 k, .int .u64 m, .string s, lv, .int .i64 e] 25)).alloc (.cells #[.int .i64 0, .int .u64 0, .string ⟨#[]⟩, .slice none 0 0, .int .i64 0] 25) = W1 := ⟨_, rfl⟩
  rw [hW1] at HBX hbW hzW ⊢
  clear hW1
  refine (HC.out W1 hbW.out).mono ?_
  rintro r w2 ⟨v', rfl, hL, hb2⟩
  obtain ⟨b', hv'⟩ := hL.form
  subst hv'
  have HL2 := Lib.hid hL
  have b2 : Hid (Below (w.heap.size + 2) W1 w2) := hb2.mono (Nat.le_of_eq hzW.out.symm)
  have s2 : Hid (w.heap.size + 2 ≤ w2.heap.size) := Nat.le_trans (Nat.le_of_eq hzW.out.symm) hb2.size
  clear hL hb2
  obtain ⟨⟨a0, a1, a2, a3, a4, af⟩, ⟨z0, z1, z2, z3, z4⟩, ⟨f0, f1, f2, f3, f4⟩, hg⟩ := HBX.out w2 b2.out
  have HG := Lib.hid hg
  clear hg
  go_wp2
  obtain ⟨v', hv'⟩ : ∃ v', Value.slice (some ⟨b', 0, none⟩) l.length (l.length + 3) = v' := ⟨_, rfl⟩
  have hL3 := HL2.out
  rw [hv'] at hL3 ⊢
  have hh : Hid ((w2.setCell ⟨w.heap.size, 3, none⟩ v').heap[w.heap.size + 1]? = some (.cells #[.int .i64 0, .int .u64 0, .string ⟨#[]⟩, .slice none 0 0, .int .i64 0] 25 (0, 0))) := (Below.heap_setCell _ _ _ _ (by simp)).trans HG.out
  have HW := Lib.hid (heap5 (v0 := .int .i64 k) (v1 := .int .u64 m) (v2 := .string s) (v3 := v') (v4 := .int .i64 e) hh.out)
  refine bodyPost_ret_by (results_cell_row rfl _ _ (w.heap.size + 1) _ _ _ _ rfl HW.out Tryz.underlying25 rfl (by kernel_rfl)) rfl ⟨v', rfl, ?_, ?_⟩
  · have ha : Apart w.heap.size (w.heap.size + 2) w2 (set5 (w2.setCell ⟨w.heap.size, 3, none⟩ v') (w.heap.size + 1) 0 (.int .i64 k) (.int .u64 m) (.string s) v' (.int .i64 e)) :=
      ((Apart.refl w.heap.size (w.heap.size + 2) w2).setCell (p := ⟨w.heap.size, 3, none⟩) (Nat.le_refl _) (Nat.lt_add_of_pos_right (by decide)) v').trans ((set5_apart _ _ _ _ _ _ _ _).wide (by omega) (by omega))
    have := hL3.apart ha (Nat.le_refl _) (.inr (Nat.le_of_eq hzW.out.symm))
    have hz : (set5 (w2.setCell ⟨w.heap.size, 3, none⟩ v') (w.heap.size + 1) 0 (.int .i64 k) (.int .u64 m) (.string s) v' (.int .i64 e)).heap.size = w2.heap.size := by rw [set5_size]; simp [World.setCell]
    rw [← hz] at this
    exact this.lo (Nat.le_trans (Nat.le_add_right _ 2) (Nat.le_of_eq hzW.out.symm))
  · exact set5_below ((hbW.out.trans (b2.out.mono (by omega))).setCell (p := ⟨w.heap.size, 3, none⟩) (Nat.le_refl _) v') (by omega)
end Go.Proofs.YtckggmcjcdkfhaaGreatDoor.Va
