/-
  The reference's has, onward and reached: their walks. No condition but the reach.
-/
import Derived.Test.YtgincippgaecfaaPJ
import Derived.Test.YtgincippgaecfaaLeaf
import Derived.Maps.AppendAt
import Derived.LoopTactic
import Derived.Lib.Hide
import Derived.RangeFuncBox
namespace Go.Proofs.Ytgincippgaecfaa.Au
open Go Go.RowKit

/-- THE CELLS OF A CONFIGURATION, from place o of block b on. -/
structure QcAt (W : World) (b o : Nat) (c : Qc) : Prop where
  name : W.cell? ⟨b, o, none⟩ = some (.string c.name)
  most : W.cell? ⟨b, o + 1, none⟩ = some (.int .i64 c.most)
  dead : W.cell? ⟨b, o + 2, none⟩ = some (.string c.dead)
  tries : W.cell? ⟨b, o + 3, none⟩ = some (.int .i64 c.tries)
  dur : W.cell? ⟨b, o + 4, none⟩ = some (.bool c.durable)

theorem QcAt.below {n : Nat} {A B : World} (h : Below n A B) {b o : Nat} {c : Qc} (hb : b < n) (k : QcAt A b o c) : QcAt B b o c :=
  ⟨(h.cell (p := ⟨b, o, none⟩) hb).trans k.name, (h.cell (p := ⟨b, o + 1, none⟩) hb).trans k.most, (h.cell (p := ⟨b, o + 2, none⟩) hb).trans k.dead,
   (h.cell (p := ⟨b, o + 3, none⟩) hb).trans k.tries, (h.cell (p := ⟨b, o + 4, none⟩) hb).trans k.dur⟩

def QsAt (n : Nat) (W : World) (sv : Value) (qs : List Qc) : Prop :=
  (∃ p c, sv = .slice p 0 c ∧ qs = []) ∨ ∃ b off cap, sv = .slice (some ⟨b, off, none⟩) qs.length cap ∧ b < n ∧ ∀ (i : Nat) (c : Qc), qs[i]? = some c → QcAt W b (off + i * 5) c

theorem QsAt.below {n : Nat} {A B : World} (h : Below n A B) {sv : Value} {qs : List Qc} : QsAt n A sv qs → QsAt n B sv qs
  | .inl e => .inl e
  | .inr ⟨b, off, cap, e, hb, hc⟩ => .inr ⟨b, off, cap, e, hb, fun i x hx => (hc i x hx).below h hb⟩
theorem QsAt.mono {n m : Nat} {W : World} (h : n ≤ m) {sv : Value} {qs : List Qc} : QsAt n W sv qs → QsAt m W sv qs
  | .inl e => .inl e
  | .inr ⟨b, off, cap, e, hb, hc⟩ => .inr ⟨b, off, cap, e, by omega, hc⟩

/-- A row of one-cell elements, opened. -/
theorem row_cases {base e n : Nat} {W : World} {v : Value} {xs : List Value} (h : W.ownsRow base e 1 v n xs) : (v = .slice none 0 0 ∧ n = 0) ∨ ∃ g cap, v = .slice (some ⟨g, 0, none⟩) n cap ∧ base ≤ g ∧ g < W.heap.size ∧ n ≤ cap ∧ cap ≤ maxLen ∧ ∀ (j : Nat) (u : Value), xs[j]? = some u → W.cell? ⟨g, j, none⟩ = some u := by
  rcases h.2 with h0 | ⟨g, cap, cur, rfl, hb, hh, h1, h2, h3, h4⟩
  · exact .inl h0
  · refine .inr ⟨g, cap, rfl, hb, (Array.getElem?_eq_some_iff.1 hh).1, h1, h2, fun j u hu => ?_⟩
    have hj : j < xs.length := (List.getElem?_eq_some_iff.1 hu).1
    rw [World.ownsRow.cellAt h j (by rw [← h.1]; exact hj)]
    exact hu

/-- The slice value owns the names, in a row from block base on. -/
def Strs (base : Nat) (W : World) (v : Value) (l : List ByteArray) : Prop := W.ownsRow base 9 1 v l.length (l.map Value.string)
theorem Strs.nil (base : Nat) (W : World) : Strs base W (.slice none 0 0) [] := World.ownsRow_nil _ _ _ _
theorem Strs.appended {B : Nat} {W w3 : World} {v v' : Value} {l : List ByteArray} {x : ByteArray} {tmp : Obj} (h : Strs B W v l) (hB : B ≤ W.heap.size) (hown : w3.ownsRow B 9 1 v' (l.length + 1) (l.map Value.string ++ [.string x])) (hgrow : (W.alloc tmp).grownBy w3 v.ownBlock) :
    Strs B w3 v' (l ++ [x]) ∧ Below B W w3 := by
  refine ⟨by unfold Strs; simpa using hown, ((Below.refl _ _).alloc hB _).grown hgrow (by simp; omega) fun k e => ?_⟩
  exact (World.ownsRow.lt h k e).1

def hasL (l : List ByteArray) (s : Nm) : Bool := l.any fun b => b.toList == s
theorem hasL_iff {l : List ByteArray} {s : Nm} : hasL l s = true ↔ s ∈ l.map (·.toList) := by
  simp [hasL, List.any_eq_true]

set_option maxRecDepth 100000 in
set_option maxHeartbeats 1000000 in
theorem has_any (base : Nat) (v : Value) (l : List ByteArray) (s : ByteArray) (w : World) (h : Strs base w v l) (hl : l.length ≤ 9000000000000000) :
    Calls Try.prog 83 #[v, .string s] w fun r w' => r = .returned (.bool (hasL l s.toList)) ∧ w' = w := by
  rcases row_cases h with ⟨rfl, h0⟩ | ⟨g, cap, rfl, _, _, _, _, hc⟩
  · obtain rfl : l = [] := List.length_eq_zero_iff.1 h0
    go_enter Try.func83, Try.ntmps83
    go_wp2
    refine wp_loop_rounds 1 ?_
    rw [rounds_succ]
    go_wp2
    go_ret
    exact ⟨rfl, rfl⟩
  · clear h
    go_enter Try.func83, Try.ntmps83
    go_wp2
    go_loop [5] (fun i => ∃ k : Nat, i = .int .i64 k ∧ k ≤ l.length ∧ hasL (l.take k) s.toList = false) (fun i => l.length - (intOf i).toNat)
    case atStart => exact ⟨0, rfl, Nat.zero_le _, by simp [hasL]⟩
    case round =>
      obtain ⟨k, rfl, hk, hno⟩ := hrel
      by_cases hlt : k < l.length
      · obtain ⟨x, hx⟩ : ∃ x, l[k]? = some x := ⟨_, List.getElem?_eq_getElem hlt⟩
        have c0 := hc k (.string x) (by rw [List.getElem?_map, hx]; rfl)
        have HX := Lib.hid hx
        have HN := Lib.hid hno
        clear hx hno hc
        go_wp2
        · go_ret
          refine ⟨ret_bool ?_, rfl⟩
          have hq : (x.toList == s.toList) = true := by assumption
          symm
          exact List.any_eq_true.2 ⟨x, List.mem_of_getElem? HX.out, hq⟩
        · go_round
          case rel =>
            have hq : (x.toList == s.toList) = false := by assumption
            exact ⟨k + 1, by go_num, by omega, by unfold hasL at *; rw [List.take_add_one, HX.out]; simp [HN.out, hq]⟩
          case measure => simp [intOf]; omega
      · obtain rfl : k = l.length := by omega
        rw [List.take_length] at hno
        have HN := Lib.hid hno
        clear hno hc
        go_wp2
        go_ret
        exact ⟨ret_bool HN.out.symm, rfl⟩

end Go.Proofs.Ytgincippgaecfaa.Au
