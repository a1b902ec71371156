/-
  Plain: the place of a text's first wrong byte. No condition.
-/
import Derived.Test.YtckggmcjcdkfhaaGreatDoorNuA
namespace Go.Proofs.Nu
open Go

theorem get!_le (s : ByteArray) (k : Nat) (h : s.size ≤ k) : s.get! k = 0 := by
  cases s with
  | mk d =>
    show d[k]! = 0
    rw [getElem!_neg d k (by show ¬ k < d.size; have : d.size ≤ k := h; omega)]
    rfl
theorem get!_lt (s : ByteArray) (k : Nat) (h : k < s.size) : s.get! k = s[k]'h := by
  cases s with
  | mk d => exact getElem!_pos d k h
theorem get!_extract (s : ByteArray) (k j : Nat) (hk : k ≤ s.size) : (s.extract k s.size).get! j = s.get! (k + j) := by
  by_cases h : k + j < s.size
  · rw [get!_lt s _ h, get!_lt _ j (by simp; omega)]
    simp [ByteArray.getElem_extract]
  · rw [get!_le s _ (by omega), get!_le _ j (by simp; omega)]
theorem decode_extract (s : ByteArray) (k : Nat) (hk : k ≤ s.size) : Utf8.decode (s.extract k s.size) 0 = Utf8.decode s k := by
  have hsz : (s.extract k s.size).size = s.size - k := by simp
  have e : ∀ j, (j < s.size - k) = (k + j < s.size) := fun j => by apply propext; omega
  unfold Utf8.decode
  simp only [get!_extract s k _ hk, hsz, Nat.zero_add, Nat.add_zero, e]

/-- The first wrong byte from k on, by so many looks. -/
def bad (s : ByteArray) : Nat → Nat → Option Nat
  | 0, _ => none
  | f + 1, k => if k < s.size then (if ch s k = 0 then some k else bad s f (k + ch s k)) else none
theorem bad_fuel (s : ByteArray) : ∀ (f g k : Nat), s.size - k ≤ f → s.size - k ≤ g → bad s f k = bad s g k
  | 0, 0, _, _, _ => rfl
  | 0, g + 1, k, h, _ => by
    have : ¬ k < s.size := by omega
    simp [bad, this]
  | f + 1, 0, k, _, h => by
    have : ¬ k < s.size := by omega
    simp [bad, this]
  | f + 1, g + 1, k, h1, h2 => by
    simp only [bad]
    by_cases hk : k < s.size
    · rw [if_pos hk, if_pos hk]
      by_cases hc : ch s k = 0
      · rw [if_pos hc, if_pos hc]
      · rw [if_neg hc, if_neg hc]
        exact bad_fuel s f g _ (by omega) (by omega)
    · rw [if_neg hk, if_neg hk]
/-- What Utf8 answers from a place on. -/
def utfFrom (s : ByteArray) (k : Nat) : Int := match bad s (s.size - k) k with | some j => (j : Int) | none => -1
def utf (s : ByteArray) : Int := utfFrom s 0
theorem utf_end {s : ByteArray} {k : Nat} (h : ¬ k < s.size) : utfFrom s k = -1 := by
  unfold utfFrom
  rw [show s.size - k = 0 by omega]; rfl
theorem utf_bad {s : ByteArray} {k : Nat} (h : k < s.size) (hc : ch s k = 0) : utfFrom s k = k := by
  unfold utfFrom
  obtain ⟨f, hf⟩ : ∃ f, s.size - k = f + 1 := ⟨s.size - k - 1, by omega⟩
  rw [hf]
  simp [bad, h, hc]
theorem utf_step {s : ByteArray} {k : Nat} (h : k < s.size) (hc : ch s k ≠ 0) : utfFrom s k = utfFrom s (k + ch s k) := by
  unfold utfFrom
  obtain ⟨f, hf⟩ : ∃ f, s.size - k = f + 1 := ⟨s.size - k - 1, by omega⟩
  rw [hf]
  have : bad s (f + 1) k = bad s (s.size - (k + ch s k)) (k + ch s k) := by
    rw [bad, if_pos h, if_neg hc]
    exact bad_fuel s _ _ _ (by omega) (by omega)
  rw [this]
theorem ch_fit {s : ByteArray} {k : Nat} (hc : ch s k ≠ 0) : k + ch s k ≤ s.size := by
  have key : ∀ j a b, wi s j a b = true → j < s.size := fun j a b h => ((wi_iff s j a b).1 h).1
  unfold ch at hc ⊢
  split
  · have := key _ _ _ ‹_›; omega
  · split
    · rename_i h
      simp only [pr, Bool.and_eq_true] at h
      have := key _ _ _ h.2.1; omega
    · split
      · rename_i h
        simp only [pr, tl, Bool.and_eq_true, Bool.or_eq_true, Bool.and_true] at h
        have : k + 2 < s.size := by
          rcases h with h | h | h | h <;> exact key _ _ _ h.2.2
        omega
      · split
        · rename_i h
          simp only [pr, tl, Bool.and_eq_true, Bool.or_eq_true, Bool.and_true] at h
          have : k + 2 + 1 < s.size := by
            rcases h with h | h | h <;> exact key _ _ _ h.2.2.2
          omega
        · rename_i h1 h2 h3 h4
          rw [if_neg h1, if_neg h2, if_neg h3, if_neg h4] at hc
          exact absurd rfl hc
end Go.Proofs.Nu
