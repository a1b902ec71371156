/-
  Plain: when two trees are the same. No condition.
-/
import Derived.Test.YtfoiaiblggapeaaGreatDoorNuTree
import Derived.Lib.Strings
namespace Go.Proofs.Nu
open Go Go.RowKit
mutual
def eqT : VT → VT → Bool
  | .mk k m s e l, .mk k' m' s' e' l' => (k == k') && ((m == m') && ((s.toList == s'.toList) && ((e == e') && eqTs l l')))
def eqTs : List VT → List VT → Bool
  | [], [] => true
  | a :: l, b :: r => eqT a b && eqTs l r
  | _, _ => false
end
theorem eqT_mk (a b : VT) : eqT a b = ((a.kind == b.kind) && ((a.num == b.num) && ((a.text.toList == b.text.toList) && ((a.elem == b.elem) && eqTs a.list b.list)))) := by
  cases a; cases b; simp [eqT, VT.kind, VT.num, VT.text, VT.elem, VT.list]
theorem eqTs_len : ∀ {l r : List VT}, l.length ≠ r.length → eqTs l r = false
  | [], [], h => absurd rfl h
  | [], _ :: _, _ => by simp [eqTs]
  | _ :: _, [], _ => by simp [eqTs]
  | a :: l, b :: r, h => by
    have := eqTs_len (l := l) (r := r) (by simpa using h)
    simp [eqTs, this]
theorem eqTs_step {l r : List VT} {k : Nat} {a b : VT} (ha : l[k]? = some a) (hb : r[k]? = some b) : eqTs (l.drop k) (r.drop k) = (eqT a b && eqTs (l.drop (k + 1)) (r.drop (k + 1))) := by
  have h1 : l.drop k = a :: l.drop (k + 1) := by
    rw [List.drop_eq_getElem_cons (List.getElem?_eq_some_iff.1 ha).1]; congr 1; exact (List.getElem?_eq_some_iff.1 ha).2
  have h2 : r.drop k = b :: r.drop (k + 1) := by
    rw [List.drop_eq_getElem_cons (List.getElem?_eq_some_iff.1 hb).1]; congr 1; exact (List.getElem?_eq_some_iff.1 hb).2
  rw [h1, h2, eqTs]
theorem eqTs_end {l r : List VT} (h : l.length = r.length) : eqTs (l.drop l.length) (r.drop l.length) = true := by
  rw [List.drop_length, h, List.drop_length, eqTs]
theorem toList_inj {s s' : ByteArray} (h : s.toList = s'.toList) : s = s' := by
  rw [Lib.toList_data, Lib.toList_data] at h
  cases s; cases s'
  congr 1
  exact Array.toList_inj.1 h
/-- All but the lists. -/
def headT (a b : VT) : Prop := a.kind = b.kind ∧ a.num = b.num ∧ a.text = b.text ∧ a.elem = b.elem ∧ a.list.length = b.list.length
theorem eqT_not {a b : VT} (h : ¬ headT a b) : eqT a b = false := by
  rw [eqT_mk]
  by_cases h5 : a.list.length = b.list.length
  · by_cases h1 : a.kind = b.kind
    · by_cases h2 : a.num = b.num
      · by_cases h3 : a.text = b.text
        · by_cases h4 : a.elem = b.elem
          · exact absurd ⟨h1, h2, h3, h4, h5⟩ h
          · simp [h4]
        · have : ¬ a.text.toList = b.text.toList := fun hh => h3 (toList_inj hh)
          simp [this]
      · simp [h2]
    · simp [h1]
  · simp [eqTs_len h5]
theorem eqT_head {a b : VT} (h : headT a b) : eqT a b = eqTs a.list b.list := by
  obtain ⟨h1, h2, h3, h4, _⟩ := h
  rw [eqT_mk]
  simp [h1, h2, h3, h4]
end Go.Proofs.Nu
