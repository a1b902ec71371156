/-
  The library's slices.IsSortedFunc by the first sent over a list of messages that the call owns. No condition but the map's function and its bound.
-/
import Derived.Test.YtgincippgaecfaaS2
namespace Go.Proofs.Ytgincippgaecfaa.Au
open Go Go.RowKit Go.Maps Go.Sort Go.Shelf Go.Lib

theorem rises_iff : ∀ l : List Int, rises l = true ↔ ∀ i, i + 1 < l.length → ¬ l[i + 1]! < l[i]!
  | [] => by simp [rises]
  | [a] => by simp [rises]
  | a :: b :: l => by
    rw [rises, Bool.and_eq_true, rises_iff (b :: l)]
    constructor
    · rintro ⟨h0, h⟩ i hi
      cases i with
      | zero => simpa using h0
      | succ i => simpa using h i (by simpa using hi)
    · intro h
      refine ⟨by simpa using h 0 (by simp), fun i hi => ?_⟩
      simpa using h (i + 1) (by simpa using hi)

def cfS (f : Int → Option Nat) (x y : I64) : Int := wrap64 (valOf f x.1 - valOf f y.1)

theorem valOf_bound {f : Int → Option Nat} (hf : ∀ m i, f m = some i → i ≤ 1000) (m : Int) : 0 ≤ valOf f m ∧ valOf f m ≤ 1000 := by
  unfold valOf
  cases h : f m with
  | none => simp
  | some i => have := hf m i h; simp; omega

theorem lt_cfS {f : Int → Option Nat} (hf : ∀ m i, f m = some i → i ≤ 1000) (x y : I64) : ltOf (cfS f) x y = decide (valOf f x.1 < valOf f y.1) := by
  have a := valOf_bound hf x.1
  have b := valOf_bound hf y.1
  have : wrap64 (valOf f x.1 - valOf f y.1) = valOf f x.1 - valOf f y.1 := by unfold wrap64; omega
  simp only [ltOf, cfS, this]
  by_cases h : valOf f x.1 < valOf f y.1
  · simp [h]; omega
  · simp [h]; omega

theorem rises_down {f : Int → Option Nat} (hf : ∀ m i, f m = some i → i ≤ 1000) (ts : List I64) : Lib.downOK (ltOf (cfS f)) ts.toArray (ts.toArray.size - 1) = rises (ts.map fun m => valOf f m.1) := by
  rw [Bool.eq_iff_iff, Lib.downOK_iff, rises_iff]
  constructor
  · intro h i hi
    have hi' : i + 1 < ts.length := by simpa using hi
    have := h i (by simp; omega)
    rw [lt_cfS hf] at this
    simp only [decide_eq_false_iff_not] at this
    rw [getElem!_pos _ _ (by simpa using hi'), getElem!_pos _ _ (by simp; omega)] at this ⊢
    simpa using this
  · intro h i hi
    have hi' : i + 1 < ts.length := by simp at hi; omega
    have := h i (by simpa using hi')
    rw [lt_cfS hf]
    simp only [decide_eq_false_iff_not]
    rw [getElem!_pos _ _ (by simpa using hi'), getElem!_pos _ _ (by simp; omega)] at this ⊢
    simpa using this

set_option maxRecDepth 100000 in
set_option maxHeartbeats 2000000 in
theorem sorted_any (Bs bs n base : Nat) (D : DU) (f : Int → Option Nat) (hf : ∀ m i, f m = some i → i ≤ 1000) (v : Value) (ts : List I64) (W : World) (hlen : ts.length ≤ 1000) (hBs : Boxed W Bs 63 (.map (some bs)))
    (hown : W.ownsMap Try.prog 3 (plainElem Try.prog 3) bs n D) (hT : Tells D f) (hrow : W.ownsRow base 3 1 v ts.length (ts.map encI)) :
    Calls Try.prog 30 #[v, .func (.func 31) #[] #[.pointer (some ⟨Bs, 0, none⟩)]] W fun e W' =>
      e = .returned (.bool (rises (ts.map fun m => valOf f m.1))) ∧ W.grownBy W' v.ownBlock := by
  rcases hrow.2 with ⟨rfl, h0⟩ | ⟨g, cap, cur, rfl, hbase, hb, h3, h4, h5, h6⟩
  · obtain rfl : ts = [] := List.length_eq_zero_iff.1 h0
    have h := Any.slices_IsSortedFunc_none Try.sl30 none 0 (.func (.func 31) #[] #[.pointer (some ⟨Bs, 0, none⟩)]) W
    change Calls Try.prog 30 _ _ _ at h
    refine h.mono ?_
    rintro e w' ⟨rfl, rfl⟩
    exact ⟨rfl, World.grownBy.refl _ _⟩
  · have hH : Holds encI W g 0 ts.toArray := holds_own hb h6
    have hblk : g < W.heap.size := (Array.getElem?_eq_some_iff.1 hb).1
    have hcmp : CmpLays1 Try.prog 31 #[.pointer (some ⟨Bs, 0, none⟩)] encI (cfS f) g 0 ts.toArray.size W := by
      refine CmpReads.lays fun m os dk hs x y => ?_
      have hgr : W.grownBy (sortWorld encI W g 0 m dk os) (some g) := sorted_grown W g m os dk
      exact cmp_any Bs bs n D f _ (hBs.kept hgr (fun e => box_ne_row hBs (by decide) hb (by cases e; rfl))).cell (hown.kept hgr (fun e => map_ne_row hown hb (by cases e; rfl))) hT x y
    have h := Any.slices_IsSortedFunc Try.sl30 encI (fun _ => rfl) (cfS f) 31 #[.pointer (some ⟨Bs, 0, none⟩)] g 0 cap ts.toArray W (enters_of Try.func31 (by kernel_rfl) rfl) hcmp hH hblk (by simp; omega)
    change Calls Try.prog 30 _ _ _ at h
    rw [rises_down hf, List.size_toArray] at h
    refine h.mono ?_
    rintro e w' ⟨rfl, k, os, rfl⟩
    exact ⟨rfl, sorted_grown W g k os _⟩

end Go.Proofs.Ytgincippgaecfaa.Au
