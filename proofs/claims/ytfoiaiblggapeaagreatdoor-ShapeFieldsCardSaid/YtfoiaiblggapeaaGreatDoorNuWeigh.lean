/-
  Plain: how a tree is weighed. No condition.
-/
import Derived.Test.YtfoiaiblggapeaaGreatDoorNuTree
namespace Go.Proofs.Nu
open Go Go.RowKit
mutual
def wt : VT → Nat → Nat
  | .mk _ _ s _ l, n => wts l (n + 1 + s.size / 64)
def wts : List VT → Nat → Nat
  | [], n => n
  | t :: ts, n => if n ≤ 100000 then wts ts (wt t n) else n
end
theorem wt_eq (t : VT) (n : Nat) : wt t n = wts t.list (n + 1 + t.text.size / 64) := by cases t; simp [wt, VT.list, VT.text]
theorem wts_nil (n : Nat) : wts [] n = n := by simp [wts]
theorem wts_big (ts : List VT) {n : Nat} (h : 100000 < n) : wts ts n = n := by
  cases ts with
  | nil => simp [wts]
  | cons t ts => rw [wts, if_neg (by omega)]
theorem wts_step {ts : List VT} {k : Nat} {t : VT} (hk : ts[k]? = some t) {n : Nat} (h : n ≤ 100000) : wts (ts.drop k) n = wts (ts.drop (k + 1)) (wt t n) := by
  have hlt := (List.getElem?_eq_some_iff.1 hk).1
  have : ts.drop k = t :: ts.drop (k + 1) := by
    rw [List.drop_eq_getElem_cons hlt]
    congr 1
    exact (List.getElem?_eq_some_iff.1 hk).2
  rw [this, wts, if_pos h]
theorem wts_end (ts : List VT) (n : Nat) : wts (ts.drop ts.length) n = n := by rw [List.drop_length, wts_nil]
end Go.Proofs.Nu
