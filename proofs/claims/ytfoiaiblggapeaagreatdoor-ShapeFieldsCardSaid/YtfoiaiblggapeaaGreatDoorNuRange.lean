/-
  A range over a map that the round does not write: the step, with the tape as it was. Conditions: as the kit's law.
-/
import Derived.Maps.RangeRun
import Derived.Below
namespace Go.Proofs.Nu
open Go Go.RowKit

theorem setBlock_last (w : World) (x y : Obj) : ChangeMaps.setBlock (w.alloc x) w.heap.size y = w.alloc y := by
  unfold ChangeMaps.setBlock World.alloc
  simp only
  congr 1
  apply Array.toList_inj.1
  simp
theorem run_next_tape {P : Program} (w : World) (ty : TypeId) (bm since c0 : Nat) (seen : Array Nat) (es : Array MapEntry) (clock : Nat) (hb : w.heap[bm]? = some (.map es clock)) (hold : ∀ x ∈ es.toList, x.born < since) (hsc : since ≤ c0) :
    ((leftOf es seen).size = 0 ∧ (Instr.next (.pointer (some ⟨w.heap.size, 0, none⟩)) false ty).run P (w.alloc (.mapIter (some bm) since seen c0)) = .ok (.tuple #[.bool false]) (w.alloc (.mapIter (some bm) since seen c0))) ∨
    ∃ e ∈ (leftOf es seen).toList, ∃ w1 : World, (w1.Alike w ∧ w1.tape = w.tape) ∧ (Instr.next (.pointer (some ⟨w.heap.size, 0, none⟩)) false ty).run P (w.alloc (.mapIter (some bm) since seen c0)) = .ok (.tuple #[.bool true, e.key, e.val]) (w1.alloc (.mapIter (some bm) since (seen.push e.born) clock)) := by
  have hlt : bm < w.heap.size := (Array.getElem?_eq_some_iff.1 hb).1
  rcases run_next_at (P := P) (w.alloc (.mapIter (some bm) since seen c0)) ty w.heap.size bm since c0 seen es clock (heap_alloc_new w _) (by rw [Below.heap_alloc w _ _ hlt]; exact hb) hold hsc with h | ⟨e, he, w1, hw1, hrun⟩
  · exact .inl h
  · right
    rcases hw1 with rfl | rfl
    · exact ⟨e, he, w, ⟨⟨rfl, rfl, rfl⟩, rfl⟩, by rw [hrun, setBlock_last]⟩
    · refine ⟨e, he, w.drew, ⟨⟨rfl, rfl, rfl⟩, rfl⟩, ?_⟩
      rw [hrun]
      have : ChangeMaps.setBlock (w.alloc (.mapIter (some bm) since seen c0)).drew w.heap.size (.mapIter (some bm) since (seen.push e.born) clock) = (w.drew).alloc (.mapIter (some bm) since (seen.push e.born) clock) := setBlock_last w.drew _ _
      rw [this]
theorem below_iter {B : Nat} {w wn w1 : World} (hb : Below B w wn) (ha : w1.Alike wn ∧ w1.tape = wn.tape) (hB : B ≤ wn.heap.size) (o : Obj) : Below B w (w1.alloc o) := by
  have h1 : Below B w w1 := ⟨ha.1.2.1.trans hb.os, ha.2.trans hb.tape, ha.1.2.2.trans hb.output, by rw [ha.1.1]; exact hb.size, fun k hk => by rw [ha.1.1]; exact hb.block k hk⟩
  exact h1.alloc (by rw [ha.1.1]; exact hB) o
end Go.Proofs.Nu
