/-
  slices.Backward over a history: the iterator's contract, for every loop body that keeps what lay below. No condition but the reach.
-/
import Derived.RangeFuncNested
import Derived.RangeFuncBound
import Derived.RangeFuncCalls
import Derived.RangeFuncLeaves
import Derived.Shelf.Abstract
import Derived.WalkKit
import Derived.OwnWalkIn
import Derived.TacticsInMore
import Derived.LoopNIn
import Derived.LoopIn
import Derived.Test.YtgincippgaecfaaH2
namespace Go.Proofs.Ytgincippgaecfaa.Au
open Go Go.RowKit Go.Shelf

attribute [local go_sem] Oper.semAt_some

/-- What yield is handed at place i. -/
def encB (es : List Ent) (i : Fin es.length) : Array Value := #[.int .i64 (i.1 : Int), (es[i]).val]

/-- What has come when j rounds are over. -/
def cameB (n j : Nat) : List (Fin n) := (List.finRange n).reverse.take j
theorem cameB_zero (n : Nat) : cameB n 0 = [] := rfl
theorem cameB_all (n : Nat) : cameB n n = (List.finRange n).reverse := by
  unfold cameB
  rw [List.take_of_length_le (by simp)]
theorem cameB_length {n j : Nat} (h : j ≤ n) : (cameB n j).length = j := by simp [cameB, h]
theorem cameB_succ {n c : Nat} (h : c < n) : cameB n (n - c) = cameB n (n - (c + 1)) ++ [⟨c, h⟩] := by
  unfold cameB
  have e : n - c = (n - (c + 1)) + 1 := by omega
  rw [e, List.take_add_one]
  congr 1
  rw [List.getElem?_reverse (by simp; omega)]
  simp
  have : n - 1 - (n - (c + 1)) = c := by omega
  simp [this, h]

/-- What a round keeps: what lay below n₀, and the block of the iterator's own. -/
def KeepB (n₀ Bs : Nat) (W W' : World) : Prop := Below n₀ W W' ∧ W'.heap[Bs]? = W.heap[Bs]?
theorem KeepB.refl (n₀ Bs : Nat) (W : World) : KeepB n₀ Bs W W := ⟨Below.refl _ _, rfl⟩
theorem KeepB.trans {n₀ Bs : Nat} {A B C : World} (h : KeepB n₀ Bs A B) (k : KeepB n₀ Bs B C) : KeepB n₀ Bs A C := ⟨h.1.trans k.1, k.2.trans h.2⟩
theorem keepB_b {n₀ Bs : Nat} {w : World} (hn : n₀ ≤ w.heap.size) (hb : Bs < w.heap.size) (W : World) (l : Nat) (o o' : Obj) (hl : w.heap.size ≤ l) (h : W.heap[l]? = some o) (h1 : o.isCells = false) (h2 : o.isWalk = false) : KeepB n₀ Bs W (W.putObj l o') :=
  ⟨belowK_b hn W l o o' hl h h1 h2, (grownBy_putObj' W l o').block Bs (by have := (Array.getElem?_eq_some_iff.1 h).1; omega) (fun e => by cases e; omega)⟩
theorem KeepB.of_grown {W W' : World} {n₀ Bs : Nat} {row : Option Nat} (hg : W.grownBy W' row) (hn : n₀ ≤ W.heap.size) (hr : ∀ k, row = some k → n₀ ≤ k) (hB : Bs < W.heap.size) (hne : some Bs ≠ row) : KeepB n₀ Bs W W' :=
  ⟨(Below.refl _ _).grown hg hn hr, hg.block Bs hB hne⟩
theorem KeepB.cell {n₀ Bs : Nat} {A B : World} (h : KeepB n₀ Bs A B) : B.cell? ⟨Bs, 0, none⟩ = A.cell? ⟨Bs, 0, none⟩ := by
  simp only [World.cell?, h.2]

set_option maxRecDepth 100000 in
set_option maxHeartbeats 2000000 in
theorem backward1_in (F : Fence) (n : Nat) (h43 : F.fn 43) (hro : F.round = none) (hn : 1 ≤ n) (l Bs n₀ b off cap : Nat) (es : List Ent) (hreach : es.length ≤ 9000000000000000) (hb : b < n₀) (J Jx : List (Fin es.length) → World → Prop)
    (hY : ∀ pre x W, J pre W → pre.length < es.length → YieldAt F (n - 1) Try.prog l (encB es x) W fun e W' =>
      (e = .returned (.bool true) ∧ J (pre ++ [x]) W' ∧ KeepB n₀ Bs W W') ∨ (e = .returned (.bool false) ∧ Jx (pre ++ [x]) W'))
    (W : World) (hBs : W.cell? ⟨Bs, 0, none⟩ = some (.slice (some ⟨b, off, none⟩) es.length cap)) (hc : ∀ i e, es[i]? = some e → EntAt W b (off + i * 6) e) (h0 : J [] W) :
    CallsIn F n Try.prog 43 #[.func (.yield l) #[] #[], .pointer (some ⟨Bs, 0, none⟩)] W fun e W' => (∃ v, e = .returned v) ∧
      ((∃ ys, ys = (List.finRange es.length).reverse ∧ J ys W') ∨ (∃ pre, True ∧ Jx pre W')) := by
  refine callsIn_of_wp Try.func43 rfl h43 ?_ hro
  simp only [Try.ntmps43, List.size_toArray, List.length_cons, List.length_nil, Nat.reduceAdd, Nat.reduceSub, Array.replicate_succ, Array.replicate_zero, List.push_toArray, List.append_toArray, List.nil_append, List.cons_append]
  gi_wp2
  gi_loopw [3] (fun i wr => ∃ c : Nat, c ≤ es.length ∧ i = .int .i64 ((c : Int) - 1) ∧ J (cameB es.length (es.length - c)) wr ∧ KeepB n₀ Bs W wr)
    (fun i _ => (intOf i + 1).toNat)
  case atStart => exact ⟨es.length, Nat.le_refl _, rfl, by rw [Nat.sub_self]; exact h0, KeepB.refl _ _ _⟩
  case round =>
    obtain ⟨c, hk, rfl, hJs, hnx⟩ := hrel
    cases c with
    | zero =>
      have e0 : ((0 : Nat) : Int) - 1 = -1 := rfl
      rw [e0]
      gi_wp2
      go_end0
      exact ⟨⟨_, rfl⟩, .inl ⟨_, (cameB_all _).symm ▸ rfl, hJs⟩⟩
    | succ k =>
      have e0 : ((k + 1 : Nat) : Int) - 1 = (k : Int) := by omega
      rw [e0]
      have hlt : k < es.length := by omega
      obtain ⟨e, he⟩ : ∃ e, es[k]? = some e := ⟨_, List.getElem?_eq_getElem hlt⟩
      have hy0 := hY _ ⟨k, hlt⟩ wr hJs (by rw [cameB_length (by omega)]; omega)
      have hen : encB es ⟨k, hlt⟩ = #[.int .i64 (k : Int), e.val] := by
        have : es[k] = e := by rw [List.getElem?_eq_getElem hlt] at he; simpa using he
        simp [encB, this]
      rw [hen] at hy0
      obtain ⟨fn, tmps, assign, body, hy, hR⟩ := hy0
      obtain ⟨c0, c1, c2, c3, c4, c5⟩ := (hc k e he).below hnx.1 hb
      have hBs' := hnx.cell.trans hBs
      clear he hen hc
      gi_wp2
      refine hR.mono ?_
      rintro e W3 (⟨rfl, hJ3, hk3⟩ | ⟨rfl, hJx3⟩)
      · gi_wp2
        go_roundw
        case rel => exact ⟨k, by omega, rfl, by rw [cameB_succ hlt]; exact hJ3, hnx.trans hk3⟩
        case measure => simp [intOf]
      · gi_wp2
        refine bodyPost_ret (results_none rfl _ _ _) rfl ?_
        exact ⟨⟨_, rfl⟩, .inr ⟨_, trivial, hJx3⟩⟩

set_option maxRecDepth 100000 in
set_option maxHeartbeats 1000000 in
theorem backward1_nil_in (F : Fence) (n : Nat) (h43 : F.fn 43) (hro : F.round = none) (l Bs : Nat) (p : Option Addr) (c : Nat) (P : World → Prop) (W : World) (hBs : W.cell? ⟨Bs, 0, none⟩ = some (.slice p 0 c)) (h0 : P W) :
    CallsIn F n Try.prog 43 #[.func (.yield l) #[] #[], .pointer (some ⟨Bs, 0, none⟩)] W fun e W' => (∃ v, e = .returned v) ∧ P W' := by
  refine callsIn_of_wp Try.func43 rfl h43 ?_ hro
  simp only [Try.ntmps43, List.size_toArray, List.length_cons, List.length_nil, Nat.reduceAdd, Nat.reduceSub, Array.replicate_succ, Array.replicate_zero, List.push_toArray, List.append_toArray, List.nil_append, List.cons_append]
  gi_wp2
  gi_loopw [3] (fun i wr => i = .int .i64 (-1) ∧ P wr) (fun _ _ => 0)
  case atStart => exact ⟨rfl, h0⟩
  case round =>
    obtain ⟨rfl, hJs⟩ := hrel
    gi_wp2
    go_end0
    exact ⟨⟨_, rfl⟩, hJs⟩

set_option maxHeartbeats 1000000 in
theorem backward_in (F : Fence) (n : Nat) (h24 : F.fn 24) (hro : F.round = none) (a : Option Addr) (len cap : Nat) (w : World) :
    CallsIn F n Try.prog 24 #[.slice a len cap] w fun e w' => e = .returned (.func (.func 43) #[] #[.pointer (some ⟨w.heap.size, 0, none⟩)]) ∧ w' = w.alloc (.cells #[.slice a len cap] 23) := by
  refine callsIn_of_wp Try.func24 rfl h24 ?_ hro
  simp only [Try.ntmps24, List.size_toArray, List.length_cons, List.length_nil, Nat.reduceAdd, Nat.reduceSub, Array.replicate_succ, Array.replicate_zero, List.push_toArray, List.append_toArray, List.nil_append, List.cons_append]
  gi_wp2
  go_ret
  exact ⟨rfl, rfl⟩

theorem backward_stops (F : Fence) (n : Nat) (h43 : F.fn 43) (hro : F.round = none) (hn : 1 ≤ n) (Bs n₀ : Nat) (sv : Value) (es : List Ent) (hreach : es.length ≤ 9000000000000000) (w : World) (hBs : Bs < w.heap.size) (hn₀ : n₀ ≤ w.heap.size)
    (hc : w.cell? ⟨Bs, 0, none⟩ = some sv) (hI : HistAt n₀ w sv es) :
    SeqStopsK F n Try.prog 43 #[.pointer (some ⟨Bs, 0, none⟩)] (encB es) (KeepB n₀ Bs) (fun ys => ys = (List.finRange es.length).reverse) (fun _ => True) es.length w := fun l J Jx W hW _ _ hY h0 => by
  have hc' := (hW.cell (p := ⟨Bs, 0, none⟩) hBs).trans hc
  rcases hI.below (hW.mono hn₀) with ⟨p, c, rfl, rfl⟩ | ⟨b, off, cap, rfl, hb, hcs⟩
  · exact (backward1_nil_in F n h43 hro l Bs p c (J []) W hc' h0).mono fun e W' ⟨he, hj⟩ => ⟨he, .inl ⟨_, rfl, hj⟩⟩
  · exact backward1_in F n h43 hro hn l Bs n₀ b off cap es hreach hb J Jx hY W hc' hcs h0

end Go.Proofs.Ytgincippgaecfaa.Au
