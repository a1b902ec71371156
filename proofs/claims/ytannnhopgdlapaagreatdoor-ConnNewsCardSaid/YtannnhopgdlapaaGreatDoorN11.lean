/-
  A fresh connection is not over, and tells no fault. No condition but that it is fresh.
-/
import Derived.Test.YtannnhopgdlapaaGreatDoorN10
import Derived.Deep.RegionHeld3
import Derived.Laws.Rows
import Derived.Laws.NewBlocks
namespace Go.Proofs.YtannnhopgdlapaaGreatDoor.Uc
open Go Go.RowKit Go.Proofs.Nu

set_option maxRecDepth 100000 in
theorem cloneV_nil (w : World) : Calls Tryz.prog 89 #[.slice none 0 0] w fun e w' => e = .returned (.slice none 0 0) ∧ w' = w := by
  have q33 : ∀ (w : World) (a : Option Addr) (n c n' c' : Nat), (binOp .eql 33 (.slice a n c) (.slice none n' c')).run Tryz.prog w = .ok (.bool a.isNone) w := fun w a n c n' c' => Lib.run_eql_slice_nil w _ _ a n c n' c' Tryz.underlying33
  go_enter Tryz.func89, Tryz.ntmps89
  go_wp2
  go_ret
  exact ⟨rfl, rfl⟩
set_option maxRecDepth 100000 in
theorem freshV_any (w : World) : Calls Tryz.prog 52 #[.agg #[.int .i64 0, .int .u64 0, .string ⟨#[]⟩, .slice none 0 0, .int .i64 0]] w fun e w' => e = .returned (.agg #[.int .i64 0, .int .u64 0, .string ⟨#[]⟩, .slice none 0 0, .int .i64 0]) ∧ w' = (w.alloc (.cells #[.int .i64 0, .int .u64 0, .string ⟨#[]⟩, .slice none 0 0, .int .i64 0] 35)).alloc (.cells #[.int .i64 0, .int .u64 0, .string ⟨#[]⟩, .slice none 0 0, .int .i64 0] 35) := by
  have HC := Lib.hid (fun w => cloneV_nil w)
  go_enter Tryz.func52, Tryz.ntmps52
  go_wp2_with (fail)
  refine (HC.out _).mono ?_
  rintro e w2 ⟨rfl, rfl⟩
  go_wp2_with (fail)
  go_loop [12] (fun i => i = .int .i64 0) (fun _ => 0)
  case atStart => rfl
  case round =>
    subst hrel
    go_wp2
    exact bodyPost_ret_by (results_cell_row rfl _ _ (w.heap.size + 1) _ _ _ _ rfl (heap_alloc2_new _ _ _) Tryz.underlying35 rfl (by kernel_rfl)) rfl ⟨rfl, rfl⟩

set_option maxRecDepth 100000 in
theorem freshF_any (w : World) : Calls Tryz.prog 25 #[.agg #[.string ⟨#[]⟩, .string ⟨#[]⟩, .int .i64 0, .int .u64 0, .string ⟨#[]⟩, .slice none 0 0, .int .i64 0]] w fun e w' => e = .returned (.agg #[.string ⟨#[]⟩, .string ⟨#[]⟩, .int .i64 0, .int .u64 0, .string ⟨#[]⟩, .slice none 0 0, .int .i64 0]) ∧ Below w.heap.size w w' := by
  have HC := Lib.hid (fun w => freshV_any w)
  go_enter Tryz.func25, Tryz.ntmps25
  go_wp2_with (fail)
  refine (HC.out _).mono ?_
  rintro e w2 ⟨rfl, rfl⟩
  go_wp2_with (fail)
  have hg := heap_alloc2_new w (.cells #[.string ⟨#[]⟩, .string ⟨#[]⟩, .int .i64 0, .int .u64 0, .string ⟨#[]⟩, .slice none 0 0, .int .i64 0] 37) (.cells #[.string ⟨#[]⟩, .string ⟨#[]⟩, .int .i64 0, .int .u64 0, .string ⟨#[]⟩, .slice none 0 0, .int .i64 0] 37)
  refine bodyPost_ret_by (results_cell_row rfl _ _ (w.heap.size + 1) _ _ _ _ rfl (((Below.heap_alloc _ _ _ (by simp only [size_alloc]; omega)).trans (Below.heap_alloc _ _ _ (by simp only [size_alloc]; omega))).trans hg) Tryz.underlying37 rfl (by kernel_rfl)) rfl ⟨rfl, ba (ba (ba (ba (Below.refl _ _))))⟩

theorem zFault : (List.range 7).map (fun j => Tryz.zeroCells73[24 + j]?) = [.string ⟨#[]⟩, .string ⟨#[]⟩, .int .i64 0, .int .u64 0, .string ⟨#[]⟩, .slice none 0 0, .int .i64 0].map some := by kernel_rfl
theorem n24 : Tryz.zeroCells73[24]? = some (.string ⟨#[]⟩) := by kernel_rfl
theorem n25 : Tryz.zeroCells73[25]? = some (.string ⟨#[]⟩) := by kernel_rfl
theorem n26 : Tryz.zeroCells73[26]? = some (.int .i64 0) := by kernel_rfl
theorem n27 : Tryz.zeroCells73[27]? = some (.int .u64 0) := by kernel_rfl
theorem n28 : Tryz.zeroCells73[28]? = some (.string ⟨#[]⟩) := by kernel_rfl
theorem n29 : Tryz.zeroCells73[29]? = some (.slice none 0 0) := by kernel_rfl
theorem n30 : Tryz.zeroCells73[30]? = some (.int .i64 0) := by kernel_rfl
end Go.Proofs.YtannnhopgdlapaaGreatDoor.Uc
