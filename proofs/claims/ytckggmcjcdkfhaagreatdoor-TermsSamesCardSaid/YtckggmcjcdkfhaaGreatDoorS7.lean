/-
  keptFault: a fault that was lent reads as it did. Conditions: the original lies so, below what was lent.
-/
import Derived.Test.YtckggmcjcdkfhaaGreatDoorS6
import Derived.Test.YtckggmcjcdkfhaaGreatDoorNuStt
namespace Go.Proofs.YtckggmcjcdkfhaaGreatDoor.Va
open Go Go.RowKit Go.Proofs.Nu

theorem load_str {w : World} {a : Addr} {v : Value} (h : w.cell? a = some v) : (Instr.loadAt 9 (.pointer (some a))).run Tryz.prog w = .ok v w := by
  have := Tryz.underlying9
  have := Tryz.sizeOf9
  go_simp
theorem load_int {w : World} {a : Addr} {v : Value} (h : w.cell? a = some v) : (Instr.loadAt 3 (.pointer (some a))).run Tryz.prog w = .ok v w := by
  have := Tryz.underlying3
  have := Tryz.sizeOf3
  go_simp
theorem load_bool {w : World} {a : Addr} {v : Value} (h : w.cell? a = some v) : (Instr.loadAt 4 (.pointer (some a))).run Tryz.prog w = .ok v w := by
  have := Tryz.underlying4
  have := Tryz.sizeOf4
  go_simp
theorem cell_of {w : World} {b : Nat} {cs : List Value} (h : Cells w b 0 cs) (j : Nat) (u : Value) (hu : cs[j]? = some u) : w.cell? ⟨b, j, none⟩ = some u := by
  have := h j u hu
  rwa [Nat.zero_add] at this
attribute [-go_sem] Go.Instr.loadAt

set_option maxRecDepth 100000 in
set_option maxHeartbeats 1000000 in
theorem keptF_any {N B lo hi : Nat} (x t : ByteArray) (i : VT) (v lv : Value) (w : World) (hl : LentAt w N lo hi v i.list) (ho : LAt B w N lv i.list) (hB : B ≤ lo) (hhi : hi ≤ w.heap.size) :
    Calls Tryz.prog 24 #[.agg #[.string x, .string t, .int .i64 i.kind, .int .u64 i.num, .string i.text, v, .int .i64 i.elem], .agg #[.string x, .string t, .int .i64 i.kind, .int .u64 i.num, .string i.text, lv, .int .i64 i.elem]] w fun r w' => r = .returned (.bool true) ∧ Apart lo hi w w' := by
  have hle := hl.le
  obtain ⟨W1, hW1⟩ : ∃ W1, (w.alloc (.cells #[.string x, .string t, .int .i64 i.kind, .int .u64 i.num, .string i.text, v, .int .i64 i.elem] 27)).alloc (.cells #[.string x, .string t, .int .i64 i.kind, .int .u64 i.num, .string i.text, lv, .int .i64 i.elem] 27) = W1 := ⟨_, rfl⟩
  have hz1 : W1.heap.size = w.heap.size + 2 := by rw [← hW1, heap_alloc_size, heap_alloc_size]
  obtain ⟨k1, k2, _, _, kb1, ks1⟩ := two_cells (w := w) (w2 := W1) (cs := fcells x t i v) (ds := fcells x t i lv) (T := 27) (by rw [← hW1]; exact Below.refl _ _)
  have hld1 : (Instr.loadAt 25 (.pointer (some ⟨w.heap.size, 2, none⟩))).run Tryz.prog W1 = .ok (.agg #[.int .i64 i.kind, .int .u64 i.num, .string i.text, v, .int .i64 i.elem]) W1 := load_value (o := 2) (cells_right (cs := [.string x, .string t]) k1)
  have hld2 : (Instr.loadAt 25 (.pointer (some ⟨w.heap.size + 1, 2, none⟩))).run Tryz.prog W1 = .ok (.agg #[.int .i64 i.kind, .int .u64 i.num, .string i.text, lv, .int .i64 i.elem]) W1 := load_value (o := 2) (cells_right (cs := [.string x, .string t]) k2)
  have HC := Lib.hid (kept_of (kepts N) B lo hi i.kind i.num i.text i.elem i.list v lv W1 (hl.below hhi (kb1.mono (Nat.le_refl _))) (ho.below (kb1.mono (by omega))) hB (by omega))
  have HK := Lib.hid (show ∀ w2, Apart lo hi W1 w2 → Cells w2 w.heap.size 0 (fcells x t i v) ∧ Cells w2 (w.heap.size + 1) 0 (fcells x t i lv) ∧ Apart lo hi w w2 from fun w2 h => ⟨k1.apart h (by omega) (.inr hhi), k2.apart h (by omega) (.inr (by omega)), (Apart.of_below kb1 (Nat.le_refl _)).trans h⟩)
  clear k1 k2 kb1 ks1 hl ho hz1
  go_enter Tryz.func24, Tryz.ntmps24
  go_wp2_with (fail)
  clear hW1
  refine HC.out.mono ?_
  rintro r w2 ⟨rfl, ha⟩
  obtain ⟨c1, c2, hA⟩ := HK.out w2 ha
  have l1 := load_str (cell_of c1 0 _ rfl)
  have l2 := load_str (cell_of c1 1 _ rfl)
  have l3 := load_str (cell_of c2 0 _ rfl)
  have l4 := load_str (cell_of c2 1 _ rfl)
  have HA := Lib.hid hA
  clear c1 c2 hA ha hld1 hld2
  go_wp2
  go_ret
  exact ⟨rfl, HA.out⟩
end Go.Proofs.YtckggmcjcdkfhaaGreatDoor.Va
