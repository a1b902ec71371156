/-
  kept: does a lent history read as it did, with its marks behind it? It is written over. No condition but the reach.
-/
import Derived.Test.YtgincippgaecfaaL1
import Derived.Deep.QuietTactic
import Derived.BigQuiet
import Derived.Maps.AppendAt
namespace Go.Proofs.Ytgincippgaecfaa.Au
open Go Go.RowKit

/-- From entry k on the row g holds the entries; no cell of it is frozen. -/
def FromAt (w : World) (g k : Nat) (es : List Ent) : Prop :=
  (∀ i e, k ≤ i → es[i]? = some e → EntAt w g (i * 6) e) ∧ ∀ j, w.frozen? ⟨g, j, none⟩ = false

theorem FromAt.up {w : World} {g k : Nat} {es : List Ent} (h : FromAt w g k es) : FromAt w g (k + 1) es := ⟨fun i e hi he => h.1 i e (by omega) he, h.2⟩
theorem FromAt.drewN {w : World} {g k : Nat} {es : List Ent} (h : FromAt w g k es) (q : Nat) : FromAt (w.drewN q) g k es :=
  ⟨fun i e hi he => ⟨(h.1 i e hi he).kind, (h.1 i e hi he).who, (h.1 i e hi he).queue, (h.1 i e hi he).msg, (h.1 i e hi he).count, (h.1 i e hi he).dur⟩, h.2⟩
theorem cell_other {w : World} {g j x : Nat} {u v : Value} (h : w.cell? ⟨g, x, none⟩ = some v) (hne : j ≠ x) : (w.setCell ⟨g, j, none⟩ u).cell? ⟨g, x, none⟩ = some v := by
  exact (World.cell?_setCell_other w u (a := ⟨g, j, none⟩) (b := ⟨g, x, none⟩) (fun e => hne (by cases e; rfl))).trans h
theorem FromAt.set {w : World} {g k : Nat} {es : List Ent} (h : FromAt w g k es) {j : Nat} (hj : j < k * 6) (u : Value) : FromAt (w.setCell ⟨g, j, none⟩ u) g k es := by
  refine ⟨fun i e hi he => ?_, fun j' => by rw [World.frozen?_setCell]; exact h.2 j'⟩
  have hh := h.1 i e hi he
  have hk : k * 6 ≤ i * 6 := Nat.mul_le_mul_right 6 hi
  exact ⟨cell_other hh.kind (by omega), cell_other hh.who (by omega), cell_other hh.queue (by omega), cell_other hh.msg (by omega), cell_other hh.count (by omega), cell_other hh.dur (by omega)⟩
theorem below_drewN {n : Nat} {a b : World} (h : Below n a b) (q : Nat) : Below n a (b.drewN q) := ⟨h.os, h.tape, h.output, h.size, h.block⟩

theorem FromAt.of_own {w : World} {B g cap n : Nat} {es : List Ent} (hn : es.length = n) (h : w.ownsRow B 55 6 (.slice (some ⟨g, 0, none⟩) n cap) n (cellsOf es)) : FromAt w g 0 es ∧ n ≤ cap ∧ cap ≤ maxLen ∧ B ≤ g ∧ g < w.heap.size := by
  have hc : AllAt w g 0 es := AllAt.of_cells (fun j u hu => by
    rw [Nat.zero_add, h.cellAt j ?_]
    · exact hu
    · have := (List.getElem?_eq_some_iff.1 hu).1
      rw [cellsOf_length] at this
      omega)
  rcases h.2 with ⟨h0, _⟩ | ⟨g', cap', cur, hv, hg, hh, h1, h2, _, _⟩
  · cases h0
  · cases hv
    refine ⟨⟨fun i e _ he => by have := hc i e he; rwa [Nat.zero_add] at this, fun j => by simp [World.frozen?, hh]⟩, h1, h2, hg, (Array.getElem?_eq_some_iff.1 hh).1⟩

theorem grown_drewN (w : World) (q : Nat) (row : Option Nat) : w.grownBy (w.drewN q) row := ⟨rfl, rfl, rfl, Nat.le_refl _, fun _ _ _ => rfl⟩
theorem grown_set {a w : World} {g : Nat} (h : a.grownBy w (some g)) (j : Nat) (u : Value) : a.grownBy (w.setCell ⟨g, j, none⟩ u) (some g) :=
  ⟨h.os, h.tape, h.output, by have := h.size; simpa [World.setCell] using this, fun k hk hne => (Below.heap_setCell _ _ _ k (fun e => hne (by rw [e]))).trans (h.block k hk hne)⟩
theorem grown6 {a w : World} {g : Nat} (h : a.grownBy w (some g)) (j0 j1 j2 j3 j4 j5 : Nat) (u0 u1 u2 u3 u4 u5 : Value) : a.grownBy ((((((w.setCell ⟨g, j0, none⟩ u0).setCell ⟨g, j1, none⟩ u1).setCell ⟨g, j2, none⟩ u2).setCell ⟨g, j3, none⟩ u3).setCell ⟨g, j4, none⟩ u4).setCell ⟨g, j5, none⟩ u5) (some g) :=
  grown_set (grown_set (grown_set (grown_set (grown_set (grown_set h _ _) _ _) _ _) _ _) _ _) _ _

theorem marks_at {w : World} {g : Nat} {es : List Ent} (h : FromAt w g 0 (es ++ [mark (-1), mark (-2)])) : w.cell? ⟨g, es.length * 6, none⟩ = some (.int .i64 (-1)) ∧ w.cell? ⟨g, (es.length + 1) * 6, none⟩ = some (.int .i64 (-2)) := by
  constructor
  · exact (h.1 es.length (mark (-1)) (Nat.zero_le _) (by simp)).kind
  · exact (h.1 (es.length + 1) (mark (-2)) (Nat.zero_le _) (by simp)).kind

set_option maxRecDepth 100000 in
set_option maxHeartbeats 2000000 in
theorem kept_some (n B g cap b off cap0 : Nat) (es : List Ent) (w : World) (hnB : n ≤ B) (hreach : es.length ≤ 9000000000000000) (hb : b < n) (hc : ∀ i e, es[i]? = some e → EntAt w b (off + i * 6) e)
    (hF : FromAt w g 0 (es ++ [mark (-1), mark (-2)])) (hcap : es.length + 2 ≤ cap) (hmx : cap ≤ 9223372036854775807) (hg : B ≤ g) (hgw : g < w.heap.size) :
    Calls Try.prog 11 #[.slice (some ⟨g, 0, none⟩) es.length cap, .slice (some ⟨b, off, none⟩) es.length cap0] w fun r w' => r = .returned (.bool true) ∧ w.grownBy w' (some g) := by
  obtain ⟨m1, m2⟩ := marks_at hF
  have HF := Lib.hid hF
  clear hF
  go_enter Try.func11, Try.ntmps11
  go_wp2
  clear m1 m2
  go_loopw [7, 8] (fun gd i wr => ∃ k : Nat, gd = .bool true ∧ i = .int .i64 k ∧ k ≤ es.length ∧ FromAt wr g k (es ++ [mark (-1), mark (-2)]) ∧ w.grownBy wr (some g)) (fun _ i _ => es.length - (intOf i).toNat)
  case atStart => exact ⟨0, rfl, rfl, Nat.zero_le _, HF.out, World.grownBy.refl _ _⟩
  case round =>
    obtain ⟨k, rfl, rfl, hk, hK, hgk⟩ := hrel
    have hbw : Below B w wr := (Below.refl _ _).grown hgk (by omega) (fun k e => by have := Option.some.inj e; omega)
    by_cases hlt : k < es.length
    · obtain ⟨e, he⟩ : ∃ e, es[k]? = some e := ⟨_, List.getElem?_eq_getElem hlt⟩
      obtain ⟨c0, c1, c2, c3, c4, c5⟩ := (hc k e he).below hbw (by omega)
      obtain ⟨d0, d1, d2, d3, d4, d5⟩ := hK.1 k e (Nat.le_refl _) (by rw [List.getElem?_append_left hlt]; exact he)
      have f0 := hK.2 (k * 6)
      have f1 := hK.2 (k * 6 + 1)
      have f2 := hK.2 (k * 6 + 2)
      have f3 := hK.2 (k * 6 + 3)
      have f4 := hK.2 (k * 6 + 4)
      have f5 := hK.2 (k * 6 + 5)
      have HK := Lib.hid hK
      clear he hK hc HF
      go_wp2
      go_quiet (fail)
      go_wp2
      go_roundw
      case rel =>
        exact ⟨k + 1, rfl, by go_num, by omega, ((((((HK.out.up.drewN nq).set (by omega) _).set (by omega) _).set (by omega) _).set (by omega) _).set (by omega) _).set (by omega) _,
          grown6 (hgk.trans (grown_drewN _ _ _)) _ _ _ _ _ _ _ _ _ _ _ _⟩
      case measure => simp [intOf]; omega
    · obtain rfl : k = es.length := by omega
      go_wp2
      go_ret
      exact ⟨rfl, hgk⟩

set_option maxHeartbeats 2000000 in
theorem kept_nil (p : Option Addr) (c g cap : Nat) (w : World) (hF : FromAt w g 0 ([] ++ [mark (-1), mark (-2)])) (hcap : 2 ≤ cap) :
    Calls Try.prog 11 #[.slice (some ⟨g, 0, none⟩) 0 cap, .slice p 0 c] w fun r w' => r = .returned (.bool true) ∧ w.grownBy w' (some g) := by
  obtain ⟨m1, m2⟩ := marks_at hF
  simp at m1 m2
  clear hF
  go_enter Try.func11, Try.ntmps11
  go_wp2
  refine wp_loop_rounds 1 ?_
  rw [rounds_succ]
  go_wp2
  go_ret
  exact ⟨rfl, World.grownBy.refl _ _⟩

theorem kept_own (n B g cap : Nat) (sv : Value) (es : List Ent) (w : World) (hnB : n ≤ B) (hreach : es.length ≤ 9000000000000000) (h : HistAt n w sv es)
    (hown : w.ownsRow B 55 6 (.slice (some ⟨g, 0, none⟩) (es.length + 2) cap) (es.length + 2) (cellsOf (es ++ [mark (-1), mark (-2)]))) :
    Calls Try.prog 11 #[.slice (some ⟨g, 0, none⟩) es.length cap, sv] w fun r w' => r = .returned (.bool true) ∧ w.grownBy w' (some g) := by
  obtain ⟨hF, h1, h2, h3, h4⟩ := FromAt.of_own (by simp) hown
  unfold maxLen at h2
  rcases h with ⟨p, c, rfl, rfl⟩ | ⟨b, off, cap0, rfl, hb, hc⟩
  · exact kept_nil p c g cap w hF h1
  · exact kept_some n B g cap b off cap0 es w hnB hreach hb hc hF h1 h2 h3 h4

theorem kept_any (n B g cap : Nat) (sv : Value) (es : List Ent) (w : World) (hnB : n ≤ B) (hreach : es.length ≤ 9000000000000000) (h : HistAt n w sv es)
    (hown : w.ownsRow B 55 6 (.slice (some ⟨g, 0, none⟩) (es.length + 2) cap) (es.length + 2) (cellsOf (es ++ [mark (-1), mark (-2)]))) :
    Calls Try.prog 11 #[.slice (some ⟨g, 0, none⟩) es.length cap, sv] w fun r w' => r = .returned (.bool true) ∧ Below B w w' := by
  obtain ⟨_, _, _, h3, h4⟩ := FromAt.of_own (by simp) hown
  exact (kept_own n B g cap sv es w hnB hreach h hown).mono fun r w' ⟨hr, hg⟩ => ⟨hr, (Below.refl _ _).grown hg (by omega) (fun k e => by have := Option.some.inj e; omega)⟩

end Go.Proofs.Ytgincippgaecfaa.Au
