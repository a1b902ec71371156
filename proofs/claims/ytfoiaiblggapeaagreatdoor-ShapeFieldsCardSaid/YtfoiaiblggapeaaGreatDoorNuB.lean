/-
  Plain: the kinds' names, as rows of kinds that follow one another. No condition.
-/
import GoSem.Core.Utf8
namespace Go.Proofs.Nu
def rows : List (Int × List (List UInt8)) := [
  (16, [[111, 112, 101, 110], [98, 101, 103, 105, 110], [97, 116, 116, 97, 99, 104], [102, 108, 111, 119], [116, 114, 97, 110, 115, 102, 101, 114], [100, 105, 115, 112, 111, 115, 105, 116, 105, 111, 110], [100, 101, 116, 97, 99, 104], [101, 110, 100], [99, 108, 111, 115, 101]]),
  (29, [[102, 97, 117, 108, 116]]),
  (35, [[114, 101, 99, 101, 105, 118, 101, 100], [97, 99, 99, 101, 112, 116, 101, 100], [114, 101, 106, 101, 99, 116, 101, 100], [114, 101, 108, 101, 97, 115, 101, 100], [109, 111, 100, 105, 102, 105, 101, 100], [115, 111, 117, 114, 99, 101], [116, 97, 114, 103, 101, 116]]),
  (48, [[99, 111, 111, 114, 100, 105, 110, 97, 116, 111, 114], [100, 101, 99, 108, 97, 114, 101], [100, 105, 115, 99, 104, 97, 114, 103, 101], [100, 101, 99, 108, 97, 114, 101, 100], [116, 114, 97, 110, 115, 97, 99, 116, 105, 111, 110, 97, 108]]),
  (64, [[109, 101, 99, 104, 97, 110, 105, 115, 109, 115], [105, 110, 105, 116], [99, 104, 97, 108, 108, 101, 110, 103, 101], [114, 101, 115, 112, 111, 110, 115, 101], [111, 117, 116, 99, 111, 109, 101]]),
  (112, [[104, 101, 97, 100, 101, 114], [100, 101, 108, 105, 118, 101, 114, 121, 45, 97, 110, 110, 111, 116, 97, 116, 105, 111, 110, 115], [109, 101, 115, 115, 97, 103, 101, 45, 97, 110, 110, 111, 116, 97, 116, 105, 111, 110, 115], [112, 114, 111, 112, 101, 114, 116, 105, 101, 115], [97, 112, 112, 108, 105, 99, 97, 116, 105, 111, 110, 45, 112, 114, 111, 112, 101, 114, 116, 105, 101, 115], [100, 97, 116, 97], [115, 101, 113, 117, 101, 110, 99, 101], [118, 97, 108, 117, 101], [102, 111, 111, 116, 101, 114]])]
def lng : List UInt8 := [108, 111, 110, 103, 115, 104, 111, 114, 101, 58]
def form (k : Int) : List UInt8 :=
  if k = 113 ∨ k = 114 ∨ k = 116 ∨ k = 120 then [109, 97, 112] else if k = 117 then [98, 105, 110, 97, 114, 121] else if k = 119 then [97, 110, 121] else [108, 105, 115, 116]
def hit (k : Int) (r : Int × List (List UInt8)) : Option (List UInt8) := if r.1 ≤ k ∧ k - r.1 < (r.2.length : Int) then r.2[(k - r.1).toNat]? else none
def nameL (k : Int) : List UInt8 :=
  match rows.findSome? (hit k) with
  | some s => lng ++ s ++ [58] ++ form k
  | none => []
theorem rows_apart : ∀ r ∈ rows, ∀ q ∈ rows, r = q ∨ r.1 + r.2.length ≤ q.1 ∨ q.1 + q.2.length ≤ r.1 := by decide
theorem hit_some {k : Int} {r : Int × List (List UInt8)} (h1 : r.1 ≤ k) (h2 : k - r.1 < (r.2.length : Int)) : ∃ s, hit k r = some s ∧ r.2[(k - r.1).toNat]? = some s := by
  have hl : (k - r.1).toNat < r.2.length := by omega
  exact ⟨r.2[(k - r.1).toNat], by unfold hit; rw [if_pos ⟨h1, h2⟩, List.getElem?_eq_getElem hl], List.getElem?_eq_getElem hl⟩
theorem hit_of {k : Int} {r : Int × List (List UInt8)} {s : List UInt8} (h : hit k r = some s) : r.1 ≤ k ∧ k - r.1 < (r.2.length : Int) := by
  unfold hit at h
  split at h
  · assumption
  · cases h
theorem name_hit {k : Int} {r : Int × List (List UInt8)} (hr : r ∈ rows) (h1 : r.1 ≤ k) (h2 : k - r.1 < (r.2.length : Int)) : ∃ s, r.2[(k - r.1).toNat]? = some s ∧ nameL k = lng ++ s ++ [58] ++ form k := by
  obtain ⟨s, hs, hg⟩ := hit_some h1 h2
  refine ⟨s, hg, ?_⟩
  have : rows.findSome? (hit k) = some s := by
    cases hf : rows.findSome? (hit k) with
    | none =>
      have := List.findSome?_eq_none_iff.1 hf r hr
      rw [hs] at this; cases this
    | some x =>
      obtain ⟨q, hq, hx⟩ := List.exists_of_findSome?_eq_some hf
      have := hit_of hx
      rcases rows_apart r hr q hq with e | e | e
      · subst e; rw [hs] at hx; exact hx.symm
      · omega
      · omega
  unfold nameL
  rw [this]
theorem name_none {k : Int} (h : ∀ r ∈ rows, ¬ (r.1 ≤ k ∧ k - r.1 < (r.2.length : Int))) : nameL k = [] := by
  unfold nameL
  have : rows.findSome? (hit k) = none := List.findSome?_eq_none_iff.2 fun r hr => by unfold hit; rw [if_neg (h r hr)]
  rw [this]
def nameB (k : Int) : ByteArray := ⟨(nameL k).toArray⟩
theorem rows_len : ∀ r ∈ rows, ∀ s ∈ r.2, s.length ≤ 30 := by decide
theorem form_map (k : Int) (h : (k == 113) = true ∨ (k == 114) = true ∨ (k == 116) = true ∨ (k == 120) = true) : form k = [109, 97, 112] := by
  simp only [beq_iff_eq] at h; unfold form; rw [if_pos h]
theorem form_bin (k : Int) (h : (k == 117) = true) : form k = [98, 105, 110, 97, 114, 121] := by
  simp only [beq_iff_eq] at h; subst h; decide
theorem form_any (k : Int) (h : (k == 119) = true) : form k = [97, 110, 121] := by
  simp only [beq_iff_eq] at h; subst h; decide
theorem form_list (k : Int) (h1 : (k == 113) = false) (h2 : (k == 114) = false) (h3 : (k == 116) = false) (h4 : (k == 120) = false) (h5 : (k == 117) = false) (h6 : (k == 119) = false) : form k = [108, 105, 115, 116] := by
  simp only [beq_eq_false_iff_ne, ne_eq] at *
  unfold form
  rw [if_neg (by omega), if_neg h5, if_neg h6]
theorem name_bytes {k : Int} {s F : List UInt8} (hn : nameL k = lng ++ s ++ [58] ++ form k) (hF : form k = F) :
    (⟨#[108, 111, 110, 103, 115, 104, 111, 114, 101, 58]⟩ ++ ⟨s.toArray⟩ ++ ⟨#[58]⟩ ++ ⟨F.toArray⟩ : ByteArray) = nameB k := by
  unfold nameB
  rw [hn, hF]
  apply ByteArray.ext
  simp [lng, ByteArray.data_append]
end Go.Proofs.Nu
