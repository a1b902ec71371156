/-
  Configurations in a row of the law's own. No program's code in sight.
-/
import Derived.Test.YtgincippgaecfaaJ22
namespace Go.Proofs.Ytgincippgaecfaa.Au
open Go Go.RowKit

def cellsQ (qs : List Qc) : List Value := qs.flatMap Qc.cells
def behindQ : Qc := ⟨⟨#[98, 101, 104, 105, 110, 100]⟩, 0, ⟨#[]⟩, 0, false⟩

theorem cellsQ_length (es : List Qc) : (cellsQ es).length = es.length * 5 := by
  induction es with
  | nil => rfl
  | cons e es ih => simp only [cellsQ, List.flatMap_cons, List.length_append, List.length_cons] at ih ⊢; rw [ih]; simp [Qc.cells]; omega
theorem cellsQ_append (es fs : List Qc) : cellsQ (es ++ fs) = cellsQ es ++ cellsQ fs := by simp [cellsQ]
theorem cellsQ_one (es : List Qc) : ∀ u ∈ cellsQ es, u.oneCell' = true := by
  intro u hu
  obtain ⟨e, _, he⟩ := List.mem_flatMap.1 hu
  simp [Qc.cells] at he
  rcases he with rfl | rfl | rfl | rfl | rfl <;> rfl

/-- The entries lie from place o of block b on. -/
def AllQ (w : World) (b o : Nat) (es : List Qc) : Prop := ∀ i e, es[i]? = some e → QcAt w b (o + i * 5) e

theorem AllQ.tail {w : World} {b o : Nat} {e : Qc} {es : List Qc} (h : AllQ w b o (e :: es)) : AllQ w b (o + 5) es := fun i x hx => by
  have := h (i + 1) x (by simpa using hx)
  rwa [show o + (i + 1) * 5 = o + 5 + i * 5 by omega] at this

theorem AllQ.cells {w : World} {b : Nat} : ∀ {es : List Qc} {o : Nat}, AllQ w b o es → ∀ j u, (cellsQ es)[j]? = some u → w.cell? ⟨b, o + j, none⟩ = some u
  | [], _, _, j, u, hu => by simp [cellsQ] at hu
  | e :: es, o, h, j, u, hu => by
    have h0 := h 0 e rfl
    simp only [Nat.zero_mul, Nat.add_zero] at h0
    simp only [cellsQ, List.flatMap_cons] at hu
    rcases Nat.lt_or_ge j 5 with hj | hj
    · rw [List.getElem?_append_left (by simpa [Qc.cells] using hj)] at hu
      match j, hj, hu with
      | 0, _, hu => simp [Qc.cells] at hu; subst hu; exact h0.name
      | 1, _, hu => simp [Qc.cells] at hu; subst hu; exact h0.most
      | 2, _, hu => simp [Qc.cells] at hu; subst hu; exact h0.dead
      | 3, _, hu => simp [Qc.cells] at hu; subst hu; exact h0.tries
      | 4, _, hu => simp [Qc.cells] at hu; subst hu; exact h0.dur
    · rw [List.getElem?_append_right (by simpa [Qc.cells] using hj)] at hu
      have := AllQ.cells h.tail (j - 5) u (by simpa [Qc.cells, cellsQ] using hu)
      rwa [show o + 5 + (j - 5) = o + j by omega] at this

theorem AllQ.of_cells {w : World} {b : Nat} : ∀ {es : List Qc} {o : Nat}, (∀ j u, (cellsQ es)[j]? = some u → w.cell? ⟨b, o + j, none⟩ = some u) → AllQ w b o es
  | [], _, _, i, e, he => by simp at he
  | e :: es, o, h, 0, x, hx => by
    simp only [List.getElem?_cons_zero, Option.some.injEq] at hx
    subst hx
    simp only [Nat.zero_mul, Nat.add_zero]
    have k : ∀ j u, e.cells[j]? = some u → w.cell? ⟨b, o + j, none⟩ = some u := fun j u hu => h j u (by
      simp only [cellsQ, List.flatMap_cons]
      rw [List.getElem?_append_left (List.getElem?_eq_some_iff.1 hu).1]
      exact hu)
    exact ⟨k 0 _ rfl, k 1 _ rfl, k 2 _ rfl, k 3 _ rfl, k 4 _ rfl⟩
  | e :: es, o, h, i + 1, x, hx => by
    have := AllQ.of_cells (w := w) (b := b) (es := es) (o := o + 5) (fun j u hu => by
      have := h (j + 5) u (by
        simp only [cellsQ, List.flatMap_cons]
        rw [List.getElem?_append_right (by simp [Qc.cells])]
        simpa [Qc.cells, cellsQ] using hu)
      rwa [show o + (j + 5) = o + 5 + j by omega] at this) i x (by simpa using hx)
    rwa [show o + 5 + i * 5 = o + (i + 1) * 5 by omega] at this

theorem info27 : (Try.prog.info? 27).map (fun i => (i.zero, i.size, i.bytes)) = some (some (.agg #[.string ⟨#[]⟩, .int .i64 0, .string ⟨#[]⟩, .int .i64 0, .bool false]), 5, 56) := by kernel_rfl

/-- A slice's cells, one by one; or there is none. -/
theorem QsAt.cells {n : Nat} {w : World} {a : Option Addr} {cap : Nat} {qs : List Qc} (h : QsAt n w (.slice a qs.length cap) qs) : (a = none ∧ qs = []) ∨ ∃ ad, a = some ad ∧ ∀ j u, (cellsQ qs)[j]? = some u → w.cell? (ad.add j) = some u := by
  rcases h with ⟨p, c, _, rfl⟩ | ⟨b, off, c, e, hb, hc⟩
  · cases a with
    | none => exact .inl ⟨rfl, rfl⟩
    | some ad => exact .inr ⟨ad, rfl, fun j u hu => by simp [cellsQ] at hu⟩
  · simp only [Value.slice.injEq] at e
    refine .inr ⟨_, e.1, fun j u hu => ?_⟩
    rw [add_off]
    exact AllQ.cells hc j u hu

/-- What the law's own row tells. -/
theorem rowQ {w : World} {B g cap : Nat} {qs : List Qc} (h : w.ownsRow B 27 5 (.slice (some ⟨g, 0, none⟩) (qs.length + 1) cap) (qs.length + 1) (cellsQ (qs ++ [behindQ]))) :
    QsAt w.heap.size w (.slice (some ⟨g, 0, none⟩) qs.length cap) qs ∧ w.cell? ⟨g, qs.length * 5, none⟩ = some (.string ⟨#[98, 101, 104, 105, 110, 100]⟩) ∧ qs.length + 1 ≤ cap ∧ cap ≤ maxLen ∧ B ≤ g ∧ g < w.heap.size := by
  have hA : AllQ w g 0 (qs ++ [behindQ]) := AllQ.of_cells fun j u hu => by
    rw [Nat.zero_add]
    have hj := (List.getElem?_eq_some_iff.1 hu).1
    rw [World.ownsRow.cellAt h j (by rw [cellsQ_length] at hj; simpa using hj)]
    exact hu
  rcases h.2 with ⟨_, h0⟩ | ⟨g', c', cur, e, hb, hh, h1, h2, h3, h4⟩
  · omega
  · simp only [Value.slice.injEq, Option.some.injEq, Addr.mk.injEq] at e
    obtain ⟨⟨rfl, _⟩, _, rfl⟩ := e
    have hg := (Array.getElem?_eq_some_iff.1 hh).1
    refine ⟨.inr ⟨g, 0, cap, rfl, hg, fun i c hc => hA i c (by rw [List.getElem?_append_left (List.getElem?_eq_some_iff.1 hc).1]; exact hc)⟩, ?_, h1, h2, hb, hg⟩
    have := (hA qs.length behindQ (by simp)).name
    rwa [Nat.zero_add] at this

theorem judgeAns_form (qs : List Qc) (es : List Ent) : ∃ N V E : Int, judgeAns qs es = .tuple #[.int .i64 N, .int .i64 V, .int .i64 E] := by
  unfold judgeAns
  split
  · exact ⟨_, _, _, rfl⟩
  · exact ⟨_, _, _, rfl⟩

end Go.Proofs.Ytgincippgaecfaa.Au
