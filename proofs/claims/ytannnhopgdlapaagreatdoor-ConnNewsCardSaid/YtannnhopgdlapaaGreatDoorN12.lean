/-
  Over, of a fresh connection: it is not, and no fault is told. No condition but that it is fresh. (DRAFT: does not build yet.)
-/
import Derived.Test.YtannnhopgdlapaaGreatDoorN11
namespace Go.Proofs.YtannnhopgdlapaaGreatDoor.Uc
open Go Go.RowKit Go.Proofs.Nu

theorem results_tmp_cell {P : Program} {fn : Func} {p u : Tmp} {ty : TypeId} (h : fn.results = #[.tmp u, .cell p ty]) (tmps : Array Value) (w : World) (v : Value) (hv : (results { fn with results := #[.cell p ty] } tmps).run P w = .ok v w) :
    (results fn tmps).run P w = .ok (.tuple #[tmps.getD u undef, v]) w := by
  simp only [results, h] at hv ⊢
  simp [Sem.run_bind, Result.andThen] at hv ⊢
  cases h1 : Sem.run P (asAddr (tmps[p]?.getD undef)) w with
  | ok a w1 =>
    rw [h1] at hv
    dsimp only at hv ⊢
    rw [hv]
  | halt e w1 =>
    rw [h1] at hv
    cases hv

theorem heap7 {w : World} {b : Nat} {T : TypeId} (h : w.heap[b]? = some (.cells #[.string ⟨#[]⟩, .string ⟨#[]⟩, .int .i64 0, .int .u64 0, .string ⟨#[]⟩, .slice none 0 0, .int .i64 0] T (0, 0))) :
    (((((((w.setCell ⟨b, 0, none⟩ (.string ⟨#[]⟩)).setCell ⟨b, 1, none⟩ (.string ⟨#[]⟩)).setCell ⟨b, 2, none⟩ (.int .i64 0)).setCell ⟨b, 3, none⟩ (.int .u64 0)).setCell ⟨b, 4, none⟩ (.string ⟨#[]⟩)).setCell ⟨b, 5, none⟩ (.slice none 0 0)).setCell ⟨b, 6, none⟩ (.int .i64 0)).heap[b]? = some (.cells #[.string ⟨#[]⟩, .string ⟨#[]⟩, .int .i64 0, .int .u64 0, .string ⟨#[]⟩, .slice none 0 0, .int .i64 0] T (0, 0)) :=
  heap_setCell_same _ b 6 _ T _ (heap_setCell_same _ b 5 _ T _ (heap_setCell_same _ b 4 _ T _ (heap_setCell_same _ b 3 _ T _ (heap_setCell_same _ b 2 _ T _ (heap_setCell_same _ b 1 _ T _ (heap_setCell_same _ b 0 _ T _ h))))))
theorem below_arm {w w4 : World} {o : Obj} (h : Below (w.alloc o).drew.heap.size (w.alloc o).drew w4) : Below (w.heap.size + 1) (w.alloc o) w4 :=
  ((Below.refl _ _).drew).trans (h.mono (by show w.heap.size + 1 ≤ (w.alloc o).heap.size; rw [size_alloc]; exact Nat.le_refl _))
theorem bs7 {a w : World} {b : Nat} (h : Below a.heap.size a w) (hb : a.heap.size ≤ b) (v0 v1 v2 v3 v4 v5 v6 : Value) : Below a.heap.size a (((((((w.setCell ⟨b, 0, none⟩ v0).setCell ⟨b, 1, none⟩ v1).setCell ⟨b, 2, none⟩ v2).setCell ⟨b, 3, none⟩ v3).setCell ⟨b, 4, none⟩ v4).setCell ⟨b, 5, none⟩ v5).setCell ⟨b, 6, none⟩ v6) :=
  (((((((h.setCell (p := ⟨b, 0, none⟩) hb v0).setCell (p := ⟨b, 1, none⟩) hb v1).setCell (p := ⟨b, 2, none⟩) hb v2).setCell (p := ⟨b, 3, none⟩) hb v3).setCell (p := ⟨b, 4, none⟩) hb v4).setCell (p := ⟨b, 5, none⟩) hb v5).setCell (p := ⟨b, 6, none⟩) hb v6)
theorem bs {a w : World} {p : Addr} (h : Below a.heap.size a w) (hp : a.heap.size ≤ p.block) (u : Value) : Below a.heap.size a (w.setCell p u) := h.setCell hp u
set_option maxRecDepth 100000 in
set_option maxHeartbeats 1000000 in
theorem over_any {xb mb : Nat} (w : World) (h : FreshAt w xb mb) : Calls Tryz.prog 7 #[.pointer (some ⟨xb, 0, none⟩)] w fun r w' => r = .returned (.tuple #[.bool false, .agg #[.string ⟨#[]⟩, .string ⟨#[]⟩, .int .i64 0, .int .u64 0, .string ⟨#[]⟩, .slice none 0 0, .int .i64 0]]) ∧ Below w.heap.size w w' := by
  have HF := Lib.hid (fun w => freshF_any w)
  have HX := Lib.hid h
  have HALL : Hid (∀ w', Below w.heap.size w w' → (Below w.heap.size w w' ∧ w'.cell? ⟨xb, 23, none⟩ = some (.bool false) ∧ w'.cell? ⟨xb, 24, none⟩ = some (.string ⟨#[]⟩) ∧ w'.cell? ⟨xb, 25, none⟩ = some (.string ⟨#[]⟩) ∧ w'.cell? ⟨xb, 26, none⟩ = some (.int .i64 0) ∧ w'.cell? ⟨xb, 27, none⟩ = some (.int .u64 0) ∧ w'.cell? ⟨xb, 28, none⟩ = some (.string ⟨#[]⟩) ∧ w'.cell? ⟨xb, 29, none⟩ = some (.slice none 0 0) ∧ w'.cell? ⟨xb, 30, none⟩ = some (.int .i64 0))) := fun w' hb =>
    have k := HX.out.below hb
    ⟨hb, (k.zero 23 _ (by omega) (by omega) (by omega) n23).1, (k.zero 24 _ (by omega) (by omega) (by omega) n24).1, (k.zero 25 _ (by omega) (by omega) (by omega) n25).1, (k.zero 26 _ (by omega) (by omega) (by omega) n26).1, (k.zero 27 _ (by omega) (by omega) (by omega) n27).1, (k.zero 28 _ (by omega) (by omega) (by omega) n28).1, (k.zero 29 _ (by omega) (by omega) (by omega) n29).1, (k.zero 30 _ (by omega) (by omega) (by omega) n30).1⟩
  clear h
  go_enter Tryz.func7, Tryz.ntmps7
  go_wp2
  have hWs := Lib.hid (size_alloc w (.cells #[.string ⟨#[]⟩, .string ⟨#[]⟩, .int .i64 0, .int .u64 0, .string ⟨#[]⟩, .slice none 0 0, .int .i64 0] 37))
  have HNB : Hid (∀ w', Below (w.heap.size + 1) (w.alloc (.cells #[.string ⟨#[]⟩, .string ⟨#[]⟩, .int .i64 0, .int .u64 0, .string ⟨#[]⟩, .slice none 0 0, .int .i64 0] 37)) w' → w'.cell? ⟨w.heap.size, 0, none⟩ = some (.string ⟨#[]⟩) ∧ w'.frozen? ⟨w.heap.size, 0, none⟩ = false ∧ w'.cell? ⟨w.heap.size, 1, none⟩ = some (.string ⟨#[]⟩) ∧ w'.frozen? ⟨w.heap.size, 1, none⟩ = false ∧ w'.cell? ⟨w.heap.size, 2, none⟩ = some (.int .i64 0) ∧ w'.frozen? ⟨w.heap.size, 2, none⟩ = false ∧ w'.cell? ⟨w.heap.size, 3, none⟩ = some (.int .u64 0) ∧ w'.frozen? ⟨w.heap.size, 3, none⟩ = false ∧ w'.cell? ⟨w.heap.size, 4, none⟩ = some (.string ⟨#[]⟩) ∧ w'.frozen? ⟨w.heap.size, 4, none⟩ = false ∧ w'.cell? ⟨w.heap.size, 5, none⟩ = some (.slice none 0 0) ∧ w'.frozen? ⟨w.heap.size, 5, none⟩ = false ∧ w'.cell? ⟨w.heap.size, 6, none⟩ = some (.int .i64 0) ∧ w'.frozen? ⟨w.heap.size, 6, none⟩ = false) := fun w' hb => by
    have c : ∀ j u, ([.string ⟨#[]⟩, .string ⟨#[]⟩, .int .i64 0, .int .u64 0, .string ⟨#[]⟩, .slice none 0 0, .int .i64 0] : List Value)[j]? = some u → w'.cell? ⟨w.heap.size, j, none⟩ = some u := fun j u hu => by
      rw [hb.cell (p := ⟨w.heap.size, j, none⟩) (Nat.lt_succ_self _), World.cell?_alloc_new]
      simpa using hu
    have f : ∀ j, w'.frozen? ⟨w.heap.size, j, none⟩ = false := fun j => (hb.frozen (p := ⟨w.heap.size, j, none⟩) (Nat.lt_succ_self _)).trans (World.frozen?_alloc_new _ _ _ _)
    exact ⟨c 0 _ rfl, f 0, c 1 _ rfl, f 1, c 2 _ rfl, f 2, c 3 _ rfl, f 3, c 4 _ rfl, f 4, c 5 _ rfl, f 5, c 6 _ rfl, f 6⟩
  go_region_held3 (fun w' => Below w.heap.size w w' ∧ w'.cell? ⟨xb, 23, none⟩ = some (.bool false) ∧ w'.cell? ⟨xb, 24, none⟩ = some (.string ⟨#[]⟩) ∧ w'.cell? ⟨xb, 25, none⟩ = some (.string ⟨#[]⟩) ∧ w'.cell? ⟨xb, 26, none⟩ = some (.int .i64 0) ∧ w'.cell? ⟨xb, 27, none⟩ = some (.int .u64 0) ∧ w'.cell? ⟨xb, 28, none⟩ = some (.string ⟨#[]⟩) ∧ w'.cell? ⟨xb, 29, none⟩ = some (.slice none 0 0) ∧ w'.cell? ⟨xb, 30, none⟩ = some (.int .i64 0))
    (first
      | with_reducible exact HALL.out _ (bs7 (bt (bd (ba (Below.refl _ _))) hb4.out) (Nat.le_refl _) _ _ _ _ _ _ _)
      | with_reducible exact HALL.out _ (bt (bd (ba (Below.refl _ _))) hb4.out)
      | with_reducible exact HALL.out _ (bd (ba (Below.refl _ _))))
    ((go_at_call 25; refine (HF.out _).mono ?_; rintro r w4 ⟨rfl, hb4'⟩; have hb4 := Lib.hid hb4'; clear hb4'; obtain ⟨a0, f0, a1, f1, a2, f2, a3, f3, a4, f4, a5, f5, a6, f6⟩ := HNB.out w4 (below_arm hb4.out)))
  have H0 : w4.heap[w.heap.size]? = some (.cells #[.string ⟨#[]⟩, .string ⟨#[]⟩, .int .i64 0, .int .u64 0, .string ⟨#[]⟩, .slice none 0 0, .int .i64 0] 37 (0, 0)) :=
    (hb4.out.block _ (by show w.heap.size < (w.alloc _).heap.size; rw [size_alloc]; omega)).trans (heap_new w _)
  have HW := Lib.hid (heap7 H0)
  clear H0 a0 f0 a1 f1 a2 f2 a3 f3 a4 f4 a5 f5 a6 f6
  go_wp2
  refine bodyPost_ret_by (results_tmp_cell rfl _ _ _ (results_cell_row rfl _ _ w.heap.size _ _ _ _ rfl HW.out Tryz.underlying37 rfl (by kernel_rfl))) rfl ⟨rfl, ?_⟩
  exact bs7 (bt (bd (ba (Below.refl _ _))) hb4.out) (Nat.le_refl _) _ _ _ _ _ _ _
end Go.Proofs.YtannnhopgdlapaaGreatDoor.Uc
