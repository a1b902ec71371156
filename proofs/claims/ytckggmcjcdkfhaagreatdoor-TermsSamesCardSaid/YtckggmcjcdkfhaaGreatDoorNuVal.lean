/-
  NuTree: Plain: a value as a tree; how it lies in memory (by so many levels). No condition.
  NuWeigh: Plain: how a tree is weighed. No condition.
  NuEq: Plain: when two trees are the same. No condition.
-/
import Derived.WalkKit
import Derived.Below
import Derived.Lib.Strings
namespace Go.Proofs.Nu
open Go Go.RowKit

inductive VT where
  | mk (kind num : Int) (text : ByteArray) (elem : Int) (list : List VT)
def VT.kind : VT → Int | .mk k _ _ _ _ => k
def VT.num : VT → Int | .mk _ n _ _ _ => n
def VT.text : VT → ByteArray | .mk _ _ t _ _ => t
def VT.elem : VT → Int | .mk _ _ _ e _ => e
def VT.list : VT → List VT | .mk _ _ _ _ l => l
theorem VT.eta (t : VT) : VT.mk t.kind t.num t.text t.elem t.list = t := by cases t; rfl
/-- What a value's numbers may be. -/
structure VT.Fine (t : VT) : Prop where
  k0 : -9223372036854775808 ≤ t.kind
  k1 : t.kind ≤ 9223372036854775807
  n0 : 0 ≤ t.num
  n1 : t.num ≤ 18446744073709551615
  e0 : -9223372036854775808 ≤ t.elem
  e1 : t.elem ≤ 9223372036854775807
  x1 : t.text.size ≤ maxLen
/-- A value's five cells. -/
def VT.cells (t : VT) (lv : Value) : List Value := [.int .i64 t.kind, .int .u64 t.num, .string t.text, lv, .int .i64 t.elem]
abbrev VT.agg (t : VT) (lv : Value) : Value := .agg #[.int .i64 t.kind, .int .u64 t.num, .string t.text, lv, .int .i64 t.elem]
/-- The five cells lie at a place. -/
structure At5 (w : World) (b o : Nat) (t : VT) (lv : Value) : Prop where
  kind : w.cell? ⟨b, o, none⟩ = some (.int .i64 t.kind)
  num : w.cell? ⟨b, o + 1, none⟩ = some (.int .u64 t.num)
  text : w.cell? ⟨b, o + 2, none⟩ = some (.string t.text)
  list : w.cell? ⟨b, o + 3, none⟩ = some lv
  elem : w.cell? ⟨b, o + 4, none⟩ = some (.int .i64 t.elem)
/-- A slice of values, all its blocks below B, by at most so many levels. -/
def LAt (B : Nat) (w : World) : Nat → Value → List VT → Prop
  | 0, _, _ => False
  | n + 1, v, ts => (ts = [] ∧ ∃ p c, v = .slice p 0 c) ∨
      ∃ b off c, v = .slice (some ⟨b, off, none⟩) ts.length c ∧ b < B ∧ ts.length ≤ maxLen ∧ ∀ i t, ts[i]? = some t → t.Fine ∧ ∃ lv, At5 w b (off + i * 5) t lv ∧ LAt B w n lv t.list

theorem At5.below {B : Nat} {w w' : World} {b o : Nat} {t : VT} {lv : Value} (h : At5 w b o t lv) (hb : Below B w w') (hlt : b < B) : At5 w' b o t lv :=
  ⟨(hb.cell hlt).trans h.kind, (hb.cell hlt).trans h.num, (hb.cell hlt).trans h.text, (hb.cell hlt).trans h.list, (hb.cell hlt).trans h.elem⟩
theorem LAt.below {B : Nat} {w w' : World} (hb : Below B w w') : ∀ {n : Nat} {v : Value} {ts : List VT}, LAt B w n v ts → LAt B w' n v ts
  | 0, _, _, h => h
  | n + 1, v, ts, h => by
    rcases h with h | ⟨b, off, c, h1, h2, h3, h4⟩
    · exact .inl h
    · exact .inr ⟨b, off, c, h1, h2, h3, fun i t ht => let ⟨hf, lv, ha, hl⟩ := h4 i t ht; ⟨hf, lv, ha.below hb h2, LAt.below hb hl⟩⟩
theorem LAt.up {B B' : Nat} {w : World} (hB : B ≤ B') : ∀ {n : Nat} {v : Value} {ts : List VT}, LAt B w n v ts → LAt B' w n v ts
  | 0, _, _, h => h
  | n + 1, v, ts, h => by
    rcases h with h | ⟨b, off, c, h1, h2, h3, h4⟩
    · exact .inl h
    · exact .inr ⟨b, off, c, h1, by omega, h3, fun i t ht => let ⟨hf, lv, ha, hl⟩ := h4 i t ht; ⟨hf, lv, ha, LAt.up hB hl⟩⟩
theorem LAt.mono {B : Nat} {w : World} : ∀ {n m : Nat} {v : Value} {ts : List VT}, n ≤ m → LAt B w n v ts → LAt B w m v ts
  | 0, _, _, _, _, h => h.elim
  | n + 1, 0, _, _, hn, _ => by omega
  | n + 1, m + 1, v, ts, hn, h => by
    rcases h with h | ⟨b, off, c, h1, h2, h3, h4⟩
    · exact .inl h
    · exact .inr ⟨b, off, c, h1, h2, h3, fun i t ht => let ⟨hf, lv, ha, hl⟩ := h4 i t ht; ⟨hf, lv, ha, LAt.mono (by omega) hl⟩⟩
theorem LAt.slice {B : Nat} {w : World} {n : Nat} {v : Value} {ts : List VT} (h : LAt B w n v ts) : ∃ p c, v = .slice p ts.length c := by
  cases n with
  | zero => exact h.elim
  | succ n =>
    rcases h with ⟨rfl, p, c, rfl⟩ | ⟨b, off, c, rfl, _⟩
    · exact ⟨p, c, rfl⟩
    · exact ⟨_, c, rfl⟩
theorem LAt.len {B : Nat} {w : World} {n : Nat} {v : Value} {ts : List VT} (h : LAt B w n v ts) : ts.length ≤ maxLen := by
  cases n with
  | zero => exact h.elim
  | succ n =>
    rcases h with ⟨rfl, _⟩ | ⟨b, off, c, _, _, h, _⟩
    · exact Nat.zero_le _
    · exact h
/-- A value as an argument: its cells, its list in memory. -/
def VAt (B : Nat) (w : World) (n : Nat) (v : Value) (t : VT) : Prop := t.Fine ∧ ∃ lv, v = t.agg lv ∧ LAt B w n lv t.list
theorem VAt.below {B : Nat} {w w' : World} {n : Nat} {v : Value} {t : VT} (h : VAt B w n v t) (hb : Below B w w') : VAt B w' n v t :=
  let ⟨hf, lv, h1, h2⟩ := h; ⟨hf, lv, h1, h2.below hb⟩
end Go.Proofs.Nu

namespace Go.Proofs.Nu
open Go Go.RowKit
mutual
def wt : VT → Nat → Nat
  | .mk _ _ s _ l, n => wts l (n + 1 + s.size / 64)
def wts : List VT → Nat → Nat
  | [], n => n
  | t :: ts, n => if n ≤ 100000 then wts ts (wt t n) else n
end
theorem wt_eq (t : VT) (n : Nat) : wt t n = wts t.list (n + 1 + t.text.size / 64) := by cases t; simp [wt, VT.list, VT.text]
theorem wts_nil (n : Nat) : wts [] n = n := by simp [wts]
theorem wts_big (ts : List VT) {n : Nat} (h : 100000 < n) : wts ts n = n := by
  cases ts with
  | nil => simp [wts]
  | cons t ts => rw [wts, if_neg (by omega)]
theorem wts_step {ts : List VT} {k : Nat} {t : VT} (hk : ts[k]? = some t) {n : Nat} (h : n ≤ 100000) : wts (ts.drop k) n = wts (ts.drop (k + 1)) (wt t n) := by
  have hlt := (List.getElem?_eq_some_iff.1 hk).1
  have : ts.drop k = t :: ts.drop (k + 1) := by
    rw [List.drop_eq_getElem_cons hlt]
    congr 1
    exact (List.getElem?_eq_some_iff.1 hk).2
  rw [this, wts, if_pos h]
theorem wts_end (ts : List VT) (n : Nat) : wts (ts.drop ts.length) n = n := by rw [List.drop_length, wts_nil]
end Go.Proofs.Nu

namespace Go.Proofs.Nu
open Go Go.RowKit
mutual
def eqT : VT → VT → Bool
  | .mk k m s e l, .mk k' m' s' e' l' => (k == k') && ((m == m') && ((s.toList == s'.toList) && ((e == e') && eqTs l l')))
def eqTs : List VT → List VT → Bool
  | [], [] => true
  | a :: l, b :: r => eqT a b && eqTs l r
  | _, _ => false
end
theorem eqT_mk (a b : VT) : eqT a b = ((a.kind == b.kind) && ((a.num == b.num) && ((a.text.toList == b.text.toList) && ((a.elem == b.elem) && eqTs a.list b.list)))) := by
  cases a; cases b; simp [eqT, VT.kind, VT.num, VT.text, VT.elem, VT.list]
theorem eqTs_len : ∀ {l r : List VT}, l.length ≠ r.length → eqTs l r = false
  | [], [], h => absurd rfl h
  | [], _ :: _, _ => by simp [eqTs]
  | _ :: _, [], _ => by simp [eqTs]
  | a :: l, b :: r, h => by
    have := eqTs_len (l := l) (r := r) (by simpa using h)
    simp [eqTs, this]
theorem eqTs_step {l r : List VT} {k : Nat} {a b : VT} (ha : l[k]? = some a) (hb : r[k]? = some b) : eqTs (l.drop k) (r.drop k) = (eqT a b && eqTs (l.drop (k + 1)) (r.drop (k + 1))) := by
  have h1 : l.drop k = a :: l.drop (k + 1) := by
    rw [List.drop_eq_getElem_cons (List.getElem?_eq_some_iff.1 ha).1]; congr 1; exact (List.getElem?_eq_some_iff.1 ha).2
  have h2 : r.drop k = b :: r.drop (k + 1) := by
    rw [List.drop_eq_getElem_cons (List.getElem?_eq_some_iff.1 hb).1]; congr 1; exact (List.getElem?_eq_some_iff.1 hb).2
  rw [h1, h2, eqTs]
theorem eqTs_end {l r : List VT} (h : l.length = r.length) : eqTs (l.drop l.length) (r.drop l.length) = true := by
  rw [List.drop_length, h, List.drop_length, eqTs]
theorem toList_inj {s s' : ByteArray} (h : s.toList = s'.toList) : s = s' := by
  rw [Lib.toList_data, Lib.toList_data] at h
  cases s; cases s'
  congr 1
  exact Array.toList_inj.1 h
/-- All but the lists. -/
def headT (a b : VT) : Prop := a.kind = b.kind ∧ a.num = b.num ∧ a.text = b.text ∧ a.elem = b.elem ∧ a.list.length = b.list.length
theorem eqT_not {a b : VT} (h : ¬ headT a b) : eqT a b = false := by
  rw [eqT_mk]
  by_cases h5 : a.list.length = b.list.length
  · by_cases h1 : a.kind = b.kind
    · by_cases h2 : a.num = b.num
      · by_cases h3 : a.text = b.text
        · by_cases h4 : a.elem = b.elem
          · exact absurd ⟨h1, h2, h3, h4, h5⟩ h
          · simp [h4]
        · have : ¬ a.text.toList = b.text.toList := fun hh => h3 (toList_inj hh)
          simp [this]
      · simp [h2]
    · simp [h1]
  · simp [eqTs_len h5]
theorem eqT_head {a b : VT} (h : headT a b) : eqT a b = eqTs a.list b.list := by
  obtain ⟨h1, h2, h3, h4, _⟩ := h
  rw [eqT_mk]
  simp [h1, h2, h3, h4]
end Go.Proofs.Nu
