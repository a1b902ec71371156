/-
  Order's two closures (by the first got; by the first sent), in whatever world the sort passes through. No condition but that the maps tell their functions.
-/
import Derived.Test.YtgincippgaecfaaM
import Derived.Test.YtgincippgaecfaaLeaf
import Derived.Test.YtgincippgaecfaaShelf
import Derived.RangeFuncBox
import Derived.Maps.OwnIn
import Derived.Maps.OwnSet
import Derived.Deep.QuietTactic
import Derived.BigQuiet
namespace Go.Proofs.Ytgincippgaecfaa.Au
open Go Go.RowKit Go.Maps Go.Sort Go.Shelf

/-- An int that is within its range. -/
abbrev I64 := { x : Int // (Lit.int .i64 x).wf = true }
instance : Inhabited I64 := ⟨⟨0, by decide⟩⟩
abbrev encI (x : I64) : Value := .int .i64 x.1

/-- What a map of ints reads at m: nought where nothing stands. -/
def valOf (f : Int → Option Nat) (m : Int) : Int := (((f m).getD 0 : Nat) : Int)

theorem Tells.atKey {D : DU} {f : Int → Option Nat} (h : Tells D f) {m c : Int} (hat : D.atKey (.int .i64 m) (.lit (.int .i64 0)) = .lit (.int .i64 c)) : c = valOf f m := by
  unfold valOf
  cases hf : f m with
  | none =>
    rw [atKey_of_not_has ((h.2 m).1 hf)] at hat
    cases hat; rfl
  | some i =>
    rw [((h.2 m).2 i hf).2] at hat
    cases hat; rfl

theorem law3 : Keyed Try.prog 3 := int_keyed Try.underlying3

/-- A map that is held reads its function. -/
theorem look_at {w : World} {b n : Nat} {D : DU} {f : Int → Option Nat} (hown : w.ownsMap Try.prog 3 (plainElem Try.prog 3) b n D) (hT : Tells D f) {m : Int} (hm : (Lit.int .i64 m).wf = true) :
    (Instr.lookup 63 (.map (some b)) (.int .i64 m) false).run Try.prog w = .ok (.int .i64 (valOf f m)) w ∧ (Lit.int .i64 (valOf f m)).wf = true := by
  obtain ⟨c, hrun, hat, hwf⟩ := hown.lookup_int law3 Try.underlying63 Try.underlying3 (Try.zeroValue3 _) (keyOf_int_mk Try.underlying3 hm)
  rw [← hT.atKey hat]
  exact ⟨hrun, hwf⟩

theorem drewN_owns {w : World} {b n : Nat} {D : DU} (h : w.ownsMap Try.prog 3 (plainElem Try.prog 3) b n D) (q : Nat) : (w.drewN q).ownsMap Try.prog 3 (plainElem Try.prog 3) b n D := h

set_option maxRecDepth 100000 in
set_option maxHeartbeats 2000000 in
theorem less_any (Bg Bl bg blk c size n : Nat) (D : DU) (f : Int → Option Nat) (W : World) (G : Nat → I64) (hg : W.cell? ⟨Bg, 0, none⟩ = some (.map (some bg))) (hl : W.cell? ⟨Bl, 0, none⟩ = some (.slice (some ⟨blk, 0, none⟩) size c))
    (hown : W.ownsMap Try.prog 3 (plainElem Try.prog 3) bg n D) (hT : Tells D f) (hc : ∀ t, t < size → W.cell? ⟨blk, t, none⟩ = some (.int .i64 (G t).1)) (i j : Nat) (hi : i < size) (hj : j < size) :
    Calls Try.prog 29 #[.int .i64 i, .int .i64 j, .pointer (some ⟨Bg, 0, none⟩), .pointer (some ⟨Bl, 0, none⟩)] W fun e w' => e = .returned (.bool (decide (valOf f (G i).1 < valOf f (G j).1))) ∧ ∃ q, w' = W.drewN q := by
  have ci := hc i hi
  have cj := hc j hj
  obtain ⟨xi, hxi⟩ : ∃ x, x = G i := ⟨_, rfl⟩
  obtain ⟨xj, hxj⟩ : ∃ x, x = G j := ⟨_, rfl⟩
  rw [← hxi] at ci ⊢
  rw [← hxj] at cj ⊢
  have wi := xi.2
  have wj := xj.2
  have li := fun q => (look_at (drewN_owns hown q) hT wi).1
  have lj := fun q => (look_at (drewN_owns hown q) hT wj).1
  obtain ⟨zi, hzi⟩ : ∃ z, z = valOf f xi.1 := ⟨_, rfl⟩
  obtain ⟨zj, hzj⟩ : ∃ z, z = valOf f xj.1 := ⟨_, rfl⟩
  rw [← hzi] at li ⊢
  rw [← hzj] at lj ⊢
  clear hxi hxj hzi hzj hc hT hown
  go_enter Try.func29, Try.ntmps29
  go_wp2
  go_quiet (fail)
  go_wp2
  go_ret
  exact ⟨rfl, nq, rfl⟩

set_option maxHeartbeats 2000000 in
theorem cmp_any (Bs bs n : Nat) (D : DU) (f : Int → Option Nat) (W : World) (hs : W.cell? ⟨Bs, 0, none⟩ = some (.map (some bs))) (hown : W.ownsMap Try.prog 3 (plainElem Try.prog 3) bs n D) (hT : Tells D f) (x y : I64) :
    Calls Try.prog 31 #[.int .i64 x.1, .int .i64 y.1, .pointer (some ⟨Bs, 0, none⟩)] W fun e w' => e = .returned (.int .i64 (wrap64 (valOf f x.1 - valOf f y.1))) ∧ ∃ q, w' = W.drewN q := by
  have li := (look_at hown hT x.2).1
  have lj := (look_at hown hT y.2).1
  obtain ⟨zi, hzi⟩ : ∃ z, z = valOf f x.1 := ⟨_, rfl⟩
  obtain ⟨zj, hzj⟩ : ∃ z, z = valOf f y.1 := ⟨_, rfl⟩
  rw [← hzi] at li ⊢
  rw [← hzj] at lj ⊢
  clear hzi hzj hT hown
  go_enter Try.func31, Try.ntmps31
  go_wp2
  go_ret
  exact ⟨rfl, 0, rfl⟩

end Go.Proofs.Ytgincippgaecfaa.Au
