/-
  Plain: a value as a tree; how it lies in memory (by so many levels). No condition.
-/
import Derived.WalkKit
import Derived.Below
namespace Go.Proofs.Nu
open Go Go.RowKit

inductive VT where
  | mk (kind num : Int) (text : ByteArray) (elem : Int) (list : List VT)
def VT.kind : VT → Int | .mk k _ _ _ _ => k
def VT.num : VT → Int | .mk _ n _ _ _ => n
def VT.text : VT → ByteArray | .mk _ _ t _ _ => t
def VT.elem : VT → Int | .mk _ _ _ e _ => e
def VT.list : VT → List VT | .mk _ _ _ _ l => l
theorem VT.eta (t : VT) : VT.mk t.kind t.num t.text t.elem t.list = t := by cases t; rfl
/-- What a value's numbers may be. -/
structure VT.Fine (t : VT) : Prop where
  k0 : -9223372036854775808 ≤ t.kind
  k1 : t.kind ≤ 9223372036854775807
  n0 : 0 ≤ t.num
  n1 : t.num ≤ 18446744073709551615
  e0 : -9223372036854775808 ≤ t.elem
  e1 : t.elem ≤ 9223372036854775807
  x1 : t.text.size ≤ maxLen
/-- A value's five cells. -/
def VT.cells (t : VT) (lv : Value) : List Value := [.int .i64 t.kind, .int .u64 t.num, .string t.text, lv, .int .i64 t.elem]
abbrev VT.agg (t : VT) (lv : Value) : Value := .agg #[.int .i64 t.kind, .int .u64 t.num, .string t.text, lv, .int .i64 t.elem]
/-- The five cells lie at a place. -/
structure At5 (w : World) (b o : Nat) (t : VT) (lv : Value) : Prop where
  kind : w.cell? ⟨b, o, none⟩ = some (.int .i64 t.kind)
  num : w.cell? ⟨b, o + 1, none⟩ = some (.int .u64 t.num)
  text : w.cell? ⟨b, o + 2, none⟩ = some (.string t.text)
  list : w.cell? ⟨b, o + 3, none⟩ = some lv
  elem : w.cell? ⟨b, o + 4, none⟩ = some (.int .i64 t.elem)
/-- A slice of values, all its blocks below B, by at most so many levels. -/
def LAt (B : Nat) (w : World) : Nat → Value → List VT → Prop
  | 0, _, _ => False
  | n + 1, v, ts => (ts = [] ∧ ∃ p c, v = .slice p 0 c) ∨
      ∃ b off c, v = .slice (some ⟨b, off, none⟩) ts.length c ∧ b < B ∧ ts.length ≤ maxLen ∧ ∀ i t, ts[i]? = some t → t.Fine ∧ ∃ lv, At5 w b (off + i * 5) t lv ∧ LAt B w n lv t.list

theorem At5.below {B : Nat} {w w' : World} {b o : Nat} {t : VT} {lv : Value} (h : At5 w b o t lv) (hb : Below B w w') (hlt : b < B) : At5 w' b o t lv :=
  ⟨(hb.cell hlt).trans h.kind, (hb.cell hlt).trans h.num, (hb.cell hlt).trans h.text, (hb.cell hlt).trans h.list, (hb.cell hlt).trans h.elem⟩
theorem LAt.below {B : Nat} {w w' : World} (hb : Below B w w') : ∀ {n : Nat} {v : Value} {ts : List VT}, LAt B w n v ts → LAt B w' n v ts
  | 0, _, _, h => h
  | n + 1, v, ts, h => by
    rcases h with h | ⟨b, off, c, h1, h2, h3, h4⟩
    · exact .inl h
    · exact .inr ⟨b, off, c, h1, h2, h3, fun i t ht => let ⟨hf, lv, ha, hl⟩ := h4 i t ht; ⟨hf, lv, ha.below hb h2, LAt.below hb hl⟩⟩
theorem LAt.up {B B' : Nat} {w : World} (hB : B ≤ B') : ∀ {n : Nat} {v : Value} {ts : List VT}, LAt B w n v ts → LAt B' w n v ts
  | 0, _, _, h => h
  | n + 1, v, ts, h => by
    rcases h with h | ⟨b, off, c, h1, h2, h3, h4⟩
    · exact .inl h
    · exact .inr ⟨b, off, c, h1, by omega, h3, fun i t ht => let ⟨hf, lv, ha, hl⟩ := h4 i t ht; ⟨hf, lv, ha, LAt.up hB hl⟩⟩
theorem LAt.mono {B : Nat} {w : World} : ∀ {n m : Nat} {v : Value} {ts : List VT}, n ≤ m → LAt B w n v ts → LAt B w m v ts
  | 0, _, _, _, _, h => h.elim
  | n + 1, 0, _, _, hn, _ => by omega
  | n + 1, m + 1, v, ts, hn, h => by
    rcases h with h | ⟨b, off, c, h1, h2, h3, h4⟩
    · exact .inl h
    · exact .inr ⟨b, off, c, h1, h2, h3, fun i t ht => let ⟨hf, lv, ha, hl⟩ := h4 i t ht; ⟨hf, lv, ha, LAt.mono (by omega) hl⟩⟩
theorem LAt.slice {B : Nat} {w : World} {n : Nat} {v : Value} {ts : List VT} (h : LAt B w n v ts) : ∃ p c, v = .slice p ts.length c := by
  cases n with
  | zero => exact h.elim
  | succ n =>
    rcases h with ⟨rfl, p, c, rfl⟩ | ⟨b, off, c, rfl, _⟩
    · exact ⟨p, c, rfl⟩
    · exact ⟨_, c, rfl⟩
theorem LAt.len {B : Nat} {w : World} {n : Nat} {v : Value} {ts : List VT} (h : LAt B w n v ts) : ts.length ≤ maxLen := by
  cases n with
  | zero => exact h.elim
  | succ n =>
    rcases h with ⟨rfl, _⟩ | ⟨b, off, c, _, _, h, _⟩
    · exact Nat.zero_le _
    · exact h
/-- A value as an argument: its cells, its list in memory. -/
def VAt (B : Nat) (w : World) (n : Nat) (v : Value) (t : VT) : Prop := t.Fine ∧ ∃ lv, v = t.agg lv ∧ LAt B w n lv t.list
theorem VAt.below {B : Nat} {w w' : World} {n : Nat} {v : Value} {t : VT} (h : VAt B w n v t) (hb : Below B w w') : VAt B w' n v t :=
  let ⟨hf, lv, h1, h2⟩ := h; ⟨hf, lv, h1, h2.below hb⟩
end Go.Proofs.Nu
