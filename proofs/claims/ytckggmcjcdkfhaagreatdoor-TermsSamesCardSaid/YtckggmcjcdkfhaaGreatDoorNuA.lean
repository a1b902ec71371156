/-
  Plain: the program's way to look for a text's first wrong byte (by the decoder) and the document's table say the same. No condition.
-/
import GoSem.Core.Utf8
namespace Go.Proofs.Nu
def wi (s : ByteArray) (k a b : Nat) : Bool := decide (k < s.size) && (decide (a ≤ (s.get! k).toNat) && decide ((s.get! k).toNat ≤ b))
def tl (s : ByteArray) (k : Nat) : Nat → Bool
  | 0 => true
  | n + 1 => wi s k 128 191 && tl s (k + 1) n
def pr (s : ByteArray) (k a b c d n : Nat) : Bool := wi s k a b && (wi s (k + 1) c d && tl s (k + 2) n)
/-- How many bytes the character at a place has, by the table; 0: none begins there. -/
def ch (s : ByteArray) (k : Nat) : Nat :=
  if wi s k 0 127 then 1
  else if pr s k 194 223 128 191 0 then 2
  else if pr s k 224 224 160 191 1 || (pr s k 225 236 128 191 1 || (pr s k 237 237 128 159 1 || pr s k 238 239 128 191 1)) then 3
  else if pr s k 240 240 144 191 2 || (pr s k 241 243 128 191 2 || pr s k 244 244 128 143 2) then 4
  else 0
theorem wi_iff (s : ByteArray) (k a b : Nat) : wi s k a b = true ↔ k < s.size ∧ a ≤ (s.get! k).toNat ∧ (s.get! k).toNat ≤ b := by simp [wi]
theorem ch_le (s : ByteArray) (k : Nat) : ch s k ≤ 4 := by unfold ch; (repeat' split) <;> omega
theorem bool_false_of {a : Bool} (h : ¬ a = true) : a = false := by cases a <;> simp_all

set_option maxHeartbeats 4000000 in
theorem decode_ch (s : ByteArray) (k : Nat) (h : k < s.size) :
    (ch s k = 0 → Utf8.decode s k = (65533, 1)) ∧ (ch s k ≠ 0 → (Utf8.decode s k).2 = ch s k ∧ ¬ ((Utf8.decode s k).1 = 65533 ∧ (Utf8.decode s k).2 = 1)) := by
  have l0 := (s.get! k).toNat_lt
  have l1 := (s.get! (k + 1)).toNat_lt
  have l2 := (s.get! (k + 2)).toNat_lt
  have l3 := (s.get! (k + 3)).toNat_lt
  have e0 : s.get! (k + 0) = s.get! k := rfl
  obtain ⟨b0, h0⟩ : ∃ b, (s.get! k).toNat = b := ⟨_, rfl⟩
  obtain ⟨b1, h1⟩ : ∃ b, (s.get! (k + 1)).toNat = b := ⟨_, rfl⟩
  obtain ⟨b2, h2⟩ : ∃ b, (s.get! (k + 2)).toNat = b := ⟨_, rfl⟩
  obtain ⟨b3, h3⟩ : ∃ b, (s.get! (k + 3)).toNat = b := ⟨_, rfl⟩
  obtain ⟨n, hn⟩ : ∃ n, s.size = n := ⟨_, rfl⟩
  have hch : ch s k = (if b0 ≤ 127 then 1 else if 194 ≤ b0 ∧ b0 ≤ 223 ∧ k + 1 < n ∧ 128 ≤ b1 ∧ b1 ≤ 191 then 2
    else if k + 1 < n ∧ k + 2 < n ∧ 128 ≤ b2 ∧ b2 ≤ 191 ∧ (b0 = 224 ∧ 160 ≤ b1 ∧ b1 ≤ 191 ∨ 225 ≤ b0 ∧ b0 ≤ 236 ∧ 128 ≤ b1 ∧ b1 ≤ 191 ∨ b0 = 237 ∧ 128 ≤ b1 ∧ b1 ≤ 159 ∨ 238 ≤ b0 ∧ b0 ≤ 239 ∧ 128 ≤ b1 ∧ b1 ≤ 191) then 3
    else if k + 1 < n ∧ k + 2 < n ∧ k + 3 < n ∧ 128 ≤ b2 ∧ b2 ≤ 191 ∧ 128 ≤ b3 ∧ b3 ≤ 191 ∧ (b0 = 240 ∧ 144 ≤ b1 ∧ b1 ≤ 191 ∨ 241 ≤ b0 ∧ b0 ≤ 243 ∧ 128 ≤ b1 ∧ b1 ≤ 191 ∨ b0 = 244 ∧ 128 ≤ b1 ∧ b1 ≤ 143) then 4 else 0) := by
    unfold ch pr
    simp only [tl, Bool.and_true, Bool.or_eq_true, Bool.and_eq_true, wi_iff, hn, h0, h1, h2, h3, show k + 2 + 1 = k + 3 from rfl]
    have hk : k < n := by omega
    congr 1
    · simp [hk]
    · congr 1
      · apply propext; constructor <;> (intro; omega)
      · congr 1
        · apply propext; constructor <;> (intro; omega)
        · congr 1
          apply propext; constructor <;> (intro; omega)
  have hd : Utf8.decode s k = (if b0 < 0x80 then (b0, 1) else if b0 / 32 = 6 ∧ k + 1 < n ∧ b1 / 64 = 2 then
        (if b0 % 32 * 64 + b1 % 64 ≥ 0x80 then (b0 % 32 * 64 + b1 % 64, 2) else (65533, 1))
      else if b0 / 16 = 14 ∧ (k + 1 < n ∧ b1 / 64 = 2) ∧ k + 2 < n ∧ b2 / 64 = 2 then
        (if b0 % 16 * 4096 + b1 % 64 * 64 + b2 % 64 ≥ 0x800 ∧ (b0 % 16 * 4096 + b1 % 64 * 64 + b2 % 64 < 0xD800 ∨ 0xE000 ≤ b0 % 16 * 4096 + b1 % 64 * 64 + b2 % 64) then (b0 % 16 * 4096 + b1 % 64 * 64 + b2 % 64, 3) else (65533, 1))
      else if b0 / 8 = 30 ∧ (k + 1 < n ∧ b1 / 64 = 2) ∧ (k + 2 < n ∧ b2 / 64 = 2) ∧ k + 3 < n ∧ b3 / 64 = 2 then
        (if b0 % 8 * 262144 + b1 % 64 * 4096 + b2 % 64 * 64 + b3 % 64 ≥ 0x10000 ∧ b0 % 8 * 262144 + b1 % 64 * 4096 + b2 % 64 * 64 + b3 % 64 ≤ 0x10FFFF then (b0 % 8 * 262144 + b1 % 64 * 4096 + b2 % 64 * 64 + b3 % 64, 4) else (65533, 1))
      else (65533, 1)) := by
    unfold Utf8.decode Utf8.valid Utf8.runeError
    simp only [Nat.add_zero, h0, h1, h2, h3, hn, Bool.and_eq_true, beq_iff_eq, decide_eq_true_eq, Bool.or_eq_true, and_assoc]
    congr 1
    congr 1
    congr 1
    · congr 1
      apply propext; constructor <;> (intro; omega)
    · congr 1
      congr 1
      apply propext; constructor <;> (intro; omega)
  rw [hch, hd]
  clear hch hd
  rw [h0] at l0; rw [h1] at l1; rw [h2] at l2; rw [h3] at l3
  repeat' split
  all_goals (constructor <;> intro hh <;> first | (simp only [Prod.mk.injEq]; omega) | (exfalso; omega) | rfl | omega)
end Go.Proofs.Nu
