/-
  Plain: what may be of a value by itself. No condition.
-/
import Derived.Test.YtckggmcjcdkfhaaGreatDoorNuKind
import Derived.Test.YtckggmcjcdkfhaaGreatDoorNuUtf
namespace Go.Proofs.Nu
open Go Go.RowKit
def hasT (k : Int) : Bool := k == 14 || (k == 17 || (k == 18 || (k == 19 || k == 20)))
def hasP (k : Int) : Bool := k == 21 || (k == 22 || (k == 23 || k == 24))
def hasN (k : Int) : Bool := !(k == 0) && (!hasT k && !hasP k)
def extraT (k m : Int) (s : ByteArray) (e : Int) (n : Nat) : Bool := (!hasN k && decide (m ≠ 0)) || ((!hasT k && decide (s.size ≠ 0)) || ((!hasP k && decide (0 < n)) || (decide (k ≠ 23) && decide (e ≠ 0))))
/-- A number of two's complement has so many bits. -/
def signed (m : Int) (b : Int) : Bool := decide (m < b) || decide (18446744073709551616 - b ≤ m)
def numT (k m : Int) : Bool :=
  if k = 1 then decide (m < 2) else if k = 2 then decide (m < 256) else if k = 3 then decide (m < 65536)
  else if k = 4 ∨ k = 10 ∨ k = 12 then decide (m < 4294967296)
  else if k = 6 then signed m 128 else if k = 7 then signed m 32768 else if k = 8 then signed m 2147483648
  else if k = 15 then decide (m < 55296) || (decide (57343 < m) && decide (m ≤ 1114111)) else true
/-- The first byte above 127 from a place on. -/
def ascFrom (s : ByteArray) (k : Nat) : Int := match (s.data.toList.drop k).findIdx? (fun x => decide (128 ≤ x.toNat)) with | some j => ((k + j : Nat) : Int) | none => -1
def asc (s : ByteArray) : Int := ascFrom s 0
theorem asc_end {s : ByteArray} {k : Nat} (h : s.size ≤ k) : ascFrom s k = -1 := by
  unfold ascFrom
  rw [List.drop_eq_nil_of_le (by rw [← Lib.size_eq]; exact h)]
  rfl
theorem drop_get {s : ByteArray} {k : Nat} (h : k < s.size) : s.data.toList.drop k = s[k] :: s.data.toList.drop (k + 1) := by
  rw [List.drop_eq_getElem_cons (by rw [← Lib.size_eq]; exact h)]
  rfl
theorem asc_hit {s : ByteArray} {k : Nat} (h : k < s.size) (hc : 128 ≤ s[k].toNat) : ascFrom s k = k := by
  unfold ascFrom
  rw [drop_get h, List.findIdx?_cons]
  simp [hc]
theorem asc_step {s : ByteArray} {k : Nat} (h : k < s.size) (hc : ¬ 128 ≤ s[k].toNat) : ascFrom s k = ascFrom s (k + 1) := by
  unfold ascFrom
  rw [drop_get h, List.findIdx?_cons]
  have : decide (128 ≤ s[k].toNat) = false := by simpa using hc
  rw [this]
  cases (s.data.toList.drop (k + 1)).findIdx? (fun x => decide (128 ≤ x.toNat)) with
  | none => rfl
  | some j => simp only [Bool.false_eq_true, if_false, Option.map_some]; congr 1; omega
def textT (k : Int) (s : ByteArray) : Bool :=
  if k = 14 ∨ k = 17 then decide (s.size = 16) else if k = 19 then decide (utf s < 0) else if k = 20 then decide (asc s < 0) else true
end Go.Proofs.Nu
