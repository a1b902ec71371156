/-
  Histories in memory, and what is amiss with one: the program's amiss (over slices.ContainsFunc) and the reference's History tell histE. No condition but the reach.
-/
import Derived.Test.YtgincippgaecfaaLeaf
import Derived.LoopTactic
import Derived.Lib.Hide
namespace Go.Proofs.Ytgincippgaecfaa.Au
open Go.RowKit

/-- THE CELLS OF AN ENTRY, from place o of block b on. -/
structure EntAt (W : World) (b o : Nat) (e : Ent) : Prop where
  kind : W.cell? ⟨b, o, none⟩ = some (.int .i64 e.kind)
  who : W.cell? ⟨b, o + 1, none⟩ = some (.int .i64 e.who)
  queue : W.cell? ⟨b, o + 2, none⟩ = some (.string e.queue)
  msg : W.cell? ⟨b, o + 3, none⟩ = some (.int .i64 e.msg)
  count : W.cell? ⟨b, o + 4, none⟩ = some (.int .i64 e.count)
  dur : W.cell? ⟨b, o + 5, none⟩ = some (.bool e.dur)

theorem EntAt.below {n : Nat} {A B : World} (h : Below n A B) {b o : Nat} {e : Ent} (hb : b < n) (k : EntAt A b o e) : EntAt B b o e :=
  ⟨(h.cell (p := ⟨b, o, none⟩) hb).trans k.kind, (h.cell (p := ⟨b, o + 1, none⟩) hb).trans k.who, (h.cell (p := ⟨b, o + 2, none⟩) hb).trans k.queue,
   (h.cell (p := ⟨b, o + 3, none⟩) hb).trans k.msg, (h.cell (p := ⟨b, o + 4, none⟩) hb).trans k.count, (h.cell (p := ⟨b, o + 5, none⟩) hb).trans k.dur⟩

/-- THE SLICE VALUE HOLDS THE HISTORY, in a block below n. -/
def HistAt (n : Nat) (W : World) (sv : Value) (es : List Ent) : Prop :=
  (∃ p c, sv = .slice p 0 c ∧ es = []) ∨ ∃ b off cap, sv = .slice (some ⟨b, off, none⟩) es.length cap ∧ b < n ∧ ∀ i e, es[i]? = some e → EntAt W b (off + i * 6) e

theorem HistAt.below {n : Nat} {A B : World} (h : Below n A B) {sv : Value} {es : List Ent} : HistAt n A sv es → HistAt n B sv es
  | .inl e => .inl e
  | .inr ⟨b, off, cap, e, hb, hc⟩ => .inr ⟨b, off, cap, e, hb, fun i x hx => (hc i x hx).below h hb⟩

theorem HistAt.mono {n m : Nat} {W : World} (h : n ≤ m) {sv : Value} {es : List Ent} : HistAt n W sv es → HistAt m W sv es
  | .inl e => .inl e
  | .inr ⟨b, off, cap, e, hb, hc⟩ => .inr ⟨b, off, cap, e, by omega, hc⟩

end Go.Proofs.Ytgincippgaecfaa.Au
