/-
  CE: the call of longshore/longshorelaw09.PerformBlanks, evaluated for every number: below 0 and above 24 under a variable, from 0 to 24 one by one. The calls of awake are taken from their own evaluation. Condition: the package-level table strings.asciiSpace as the program's text lays it (the entries bear it).
-/
import Derived.Test.YtkdkmofgeofooaaGreatDoorAwake
namespace Go.Proofs.YtkdkmofgeofooaaGreatDoor.performBlanks
theorem below (j : Nat) : (blanks (Int.negSucc j)).says Tryz.prog 7 1000000 [awakeE] = true := by kernel_rfl
theorem above (j : Nat) : (blanks (Int.ofNat (j + 25))).says Tryz.prog 7 1000000 [awakeE] = true := by kernel_rfl
theorem at0 : (blanks (Int.ofNat 0)).says Tryz.prog 7 1000000 [awakeE] = true := by kernel_rfl
theorem at1 : (blanks (Int.ofNat 1)).says Tryz.prog 7 1000000 [awakeE] = true := by kernel_rfl
theorem at2 : (blanks (Int.ofNat 2)).says Tryz.prog 7 1000000 [awakeE] = true := by kernel_rfl
theorem at3 : (blanks (Int.ofNat 3)).says Tryz.prog 7 1000000 [awakeE] = true := by kernel_rfl
theorem at4 : (blanks (Int.ofNat 4)).says Tryz.prog 7 1000000 [awakeE] = true := by kernel_rfl
theorem at5 : (blanks (Int.ofNat 5)).says Tryz.prog 7 1000000 [awakeE] = true := by kernel_rfl
theorem at6 : (blanks (Int.ofNat 6)).says Tryz.prog 7 1000000 [awakeE] = true := by kernel_rfl
theorem at7 : (blanks (Int.ofNat 7)).says Tryz.prog 7 1000000 [awakeE] = true := by kernel_rfl
theorem at8 : (blanks (Int.ofNat 8)).says Tryz.prog 7 1000000 [awakeE] = true := by kernel_rfl
theorem at9 : (blanks (Int.ofNat 9)).says Tryz.prog 7 1000000 [awakeE] = true := by kernel_rfl
theorem at10 : (blanks (Int.ofNat 10)).says Tryz.prog 7 1000000 [awakeE] = true := by kernel_rfl
theorem at11 : (blanks (Int.ofNat 11)).says Tryz.prog 7 1000000 [awakeE] = true := by kernel_rfl
theorem at12 : (blanks (Int.ofNat 12)).says Tryz.prog 7 1000000 [awakeE] = true := by kernel_rfl
theorem at13 : (blanks (Int.ofNat 13)).says Tryz.prog 7 1000000 [awakeE] = true := by kernel_rfl
theorem at14 : (blanks (Int.ofNat 14)).says Tryz.prog 7 1000000 [awakeE] = true := by kernel_rfl
theorem at15 : (blanks (Int.ofNat 15)).says Tryz.prog 7 1000000 [awakeE] = true := by kernel_rfl
theorem at16 : (blanks (Int.ofNat 16)).says Tryz.prog 7 1000000 [awakeE] = true := by kernel_rfl
theorem at17 : (blanks (Int.ofNat 17)).says Tryz.prog 7 1000000 [awakeE] = true := by kernel_rfl
theorem at18 : (blanks (Int.ofNat 18)).says Tryz.prog 7 1000000 [awakeE] = true := by kernel_rfl
theorem at19 : (blanks (Int.ofNat 19)).says Tryz.prog 7 1000000 [awakeE] = true := by kernel_rfl
theorem at20 : (blanks (Int.ofNat 20)).says Tryz.prog 7 1000000 [awakeE] = true := by kernel_rfl
theorem at21 : (blanks (Int.ofNat 21)).says Tryz.prog 7 1000000 [awakeE] = true := by kernel_rfl
theorem at22 : (blanks (Int.ofNat 22)).says Tryz.prog 7 1000000 [awakeE] = true := by kernel_rfl
theorem at23 : (blanks (Int.ofNat 23)).says Tryz.prog 7 1000000 [awakeE] = true := by kernel_rfl
theorem at24 : (blanks (Int.ofNat 24)).says Tryz.prog 7 1000000 [awakeE] = true := by kernel_rfl
theorem all_says : ∀ k : Int, (blanks k).says Tryz.prog 7 1000000 [awakeE] = true
  | .negSucc j => below j
  | .ofNat 0 => at0
  | .ofNat 1 => at1
  | .ofNat 2 => at2
  | .ofNat 3 => at3
  | .ofNat 4 => at4
  | .ofNat 5 => at5
  | .ofNat 6 => at6
  | .ofNat 7 => at7
  | .ofNat 8 => at8
  | .ofNat 9 => at9
  | .ofNat 10 => at10
  | .ofNat 11 => at11
  | .ofNat 12 => at12
  | .ofNat 13 => at13
  | .ofNat 14 => at14
  | .ofNat 15 => at15
  | .ofNat 16 => at16
  | .ofNat 17 => at17
  | .ofNat 18 => at18
  | .ofNat 19 => at19
  | .ofNat 20 => at20
  | .ofNat 21 => at21
  | .ofNat 22 => at22
  | .ofNat 23 => at23
  | .ofNat 24 => at24
  | .ofNat (j + 25) => above j
theorem all_ok (k : Int) : CE.MemoOk Tryz.prog 7 (blanks k) := CE.memo_ok mixed noCount (CE.memo_one awake_ok) (all_says k)
end Go.Proofs.YtkdkmofgeofooaaGreatDoor.performBlanks
