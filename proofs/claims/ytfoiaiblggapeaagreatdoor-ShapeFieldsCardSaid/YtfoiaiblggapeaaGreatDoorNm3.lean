/-
  CE: the reference's Name at every number, evaluated: below 0 and above 120 under a variable, else one by one. No condition.
-/
import Derived.Test.YtfoiaiblggapeaaGreatDoorNm1
namespace Go.Proofs.YtfoiaiblggapeaaGreatDoor.Nm
open Go Go.RowKit Go.CE Go.Proofs.Nu

noncomputable def refE (k : Int) : MemoE := { f := 11, args := [.int .i64 k], glob := [], val := .string (nameB k) }
noncomputable def refN (k : Int) : MemoE := { f := 11, args := [.int .i64 k], glob := [], val := .string ⟨#[]⟩ }
theorem ref_below (j : Nat) : (refN (Int.negSucc j)).says Tryz.prog 7 1000000 [] = true := by kernel_rfl
theorem ref_above (j : Nat) : (refN (Int.ofNat (j + 121))).says Tryz.prog 7 1000000 [] = true := by kernel_rfl
theorem ref_a : ((List.range 40).all fun k => (refE (Int.ofNat k)).says Tryz.prog 7 1000000 []) = true := by kernel_rfl
theorem ref_b : ((List.range 40).all fun k => (refE (Int.ofNat (k + 40))).says Tryz.prog 7 1000000 []) = true := by kernel_rfl
theorem ref_c : ((List.range 41).all fun k => (refE (Int.ofNat (k + 80))).says Tryz.prog 7 1000000 []) = true := by kernel_rfl

theorem name_low (k : Int) (h : k < 16 ∨ 120 < k) : nameB k = ⟨#[]⟩ := by
  have : nameL k = [] := name_none fun r hr hc => by
    have hb : ∀ r ∈ rows, 16 ≤ r.1 ∧ r.1 + r.2.length ≤ 121 := by decide
    have := hb r hr
    omega
  unfold nameB
  rw [this]
theorem ref_says : ∀ k : Int, (refE k).says Tryz.prog 7 1000000 [] = true
  | .negSucc j => by
    have := ref_below j
    unfold refN at this; unfold refE
    rw [name_low (Int.negSucc j) (.inl (by omega))]; exact this
  | .ofNat n => by
    by_cases h1 : n < 40
    · exact List.all_eq_true.1 ref_a n (List.mem_range.2 h1)
    · by_cases h2 : n < 80
      · have := List.all_eq_true.1 ref_b (n - 40) (List.mem_range.2 (by omega))
        rwa [show n - 40 + 40 = n by omega] at this
      · by_cases h3 : n < 121
        · have := List.all_eq_true.1 ref_c (n - 80) (List.mem_range.2 (by omega))
          rwa [show n - 80 + 80 = n by omega] at this
        · have := ref_above (n - 121)
          rw [show n - 121 + 121 = n by omega] at this
          unfold refN at this; unfold refE
          rw [name_low (Int.ofNat n) (.inr (by rw [Int.ofNat_eq_natCast]; omega))]; exact this
theorem refName_any (k : Int) (w : World) : Calls Tryz.prog 11 #[.int .i64 k] w fun e w' => e = .returned (.string (nameB k)) ∧ Below w.heap.size w w' :=
  calls_entry (memo_ok mixed noCount (memo_none _ _) (ref_says k)) (lies_none _ _)
end Go.Proofs.YtfoiaiblggapeaaGreatDoor.Nm
