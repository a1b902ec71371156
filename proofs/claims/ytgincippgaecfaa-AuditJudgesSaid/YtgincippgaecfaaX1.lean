/-
  What lent hands back holds the history. No condition.
-/
import Derived.Test.YtgincippgaecfaaL2
namespace Go.Proofs.Ytgincippgaecfaa.Au
open Go Go.RowKit

theorem ownsRow_below {n : Nat} {A B : World} (h : Below n A B) {base e size k : Nat} {v : Value} {xs : List Value} (ho : A.ownsRow base e size v k xs) (hv : ∀ g, v.ownBlock = some g → g < n) : B.ownsRow base e size v k xs := by
  refine ⟨ho.1, ?_⟩
  rcases ho.2 with h0 | ⟨g, cap, cur, rfl, hb, hh, r1, r2, r3, r4⟩
  · exact .inl h0
  · exact .inr ⟨g, cap, cur, rfl, hb, (h.block g (hv g rfl)).trans hh, r1, r2, r3, r4⟩

/-- What lent hands back holds the history. -/
theorem Lent.hist {w0 w' : World} {es : List Ent} {g cap : Nat} (h : w'.ownsRow w0.heap.size 55 6 (.slice (some ⟨g, 0, none⟩) (es.length + 2) cap) (es.length + 2) (cellsOf (es ++ [mark (-1), mark (-2)]))) : HistAt w'.heap.size w' (.slice (some ⟨g, 0, none⟩) es.length cap) es := by
  obtain ⟨⟨hF, _⟩, _, _, _, hg⟩ := FromAt.of_own (by simp) h
  refine .inr ⟨g, 0, cap, rfl, hg, fun i e he => ?_⟩
  rw [Nat.zero_add]
  exact hF i e (Nat.zero_le _) (by rw [List.getElem?_append_left (List.getElem?_eq_some_iff.1 he).1]; exact he)

end Go.Proofs.Ytgincippgaecfaa.Au
