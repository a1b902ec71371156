/-
  The reference's counted: its walk. No condition but the reach.
-/
import Derived.Test.YtgincippgaecfaaJA
import Derived.Test.YtgincippgaecfaaH1
namespace Go.Proofs.Ytgincippgaecfaa.Au
open Go Go.RowKit

def matchE (e x : Ent) (one two : Int) (cnt : Bool) : Bool := (decide (x.kind = one) || decide (x.kind = two)) && alikeE cnt e x
theorem countL_step {es : List Ent} {k : Nat} {x e : Ent} {one two : Int} {cnt : Bool} (hx : es[k]? = some x) : countL (es.take (k + 1)) e one two cnt = countL (es.take k) e one two cnt + if matchE e x one two cnt then 1 else 0 := by
  unfold countL
  rw [List.take_add_one, hx]
  simp only [Option.toList_some, List.countP_append, List.countP_cons, List.countP_nil, Nat.zero_add]
  rfl
theorem count_yes {es : List Ent} {k : Nat} {x e : Ent} {one two : Int} {cnt : Bool} (hx : es[k]? = some x) (h : matchE e x one two cnt = true) : countL (es.take (k + 1)) e one two cnt = countL (es.take k) e one two cnt + 1 := by
  rw [countL_step hx, if_pos h]
theorem count_no {es : List Ent} {k : Nat} {x e : Ent} {one two : Int} {cnt : Bool} (hx : es[k]? = some x) (h : matchE e x one two cnt = false) : countL (es.take (k + 1)) e one two cnt = countL (es.take k) e one two cnt := by
  rw [countL_step hx, h]; simp

theorem EntAt.alloc {W : World} {b o : Nat} {e : Ent} (h : EntAt W b o e) (hb : b < W.heap.size) (x : Obj) : EntAt (W.alloc x) b o e := h.below ((Below.refl W.heap.size W).alloc (Nat.le_refl _) x) hb

set_option maxRecDepth 100000 in
set_option maxHeartbeats 8000000 in
theorem counted_true (b off cap n : Nat) (es : List Ent) (k0 who m c one two : Int) (q : ByteArray) (d : Bool) (w : World) (hl : es.length ≤ 400) (hn : n ≤ es.length) (hb : b < w.heap.size) (hc : ∀ i e, es[i]? = some e → EntAt w b (off + i * 6) e) :
    Calls Try.prog 41 #[.slice (some ⟨b, off, none⟩) es.length cap, .int .i64 n, .agg #[.int .i64 k0, .int .i64 who, .string q, .int .i64 m, .int .i64 c, .bool d], .int .i64 one, .int .i64 two, .bool true] w fun r w' =>
      r = .returned (.int .i64 (countL (es.take n) ⟨k0, who, q, m, c, d⟩ one two true)) ∧ Below w.heap.size w w' := by
  go_enter Try.func41, Try.ntmps41
  go_wp2
  go_loopw [13, 14] (fun s i wr => ∃ k : Nat, i = .int .i64 k ∧ k ≤ n ∧ s = .int .i64 (countL (es.take k) ⟨k0, who, q, m, c, d⟩ one two true) ∧ EntAt wr w.heap.size 0 ⟨k0, who, q, m, c, d⟩ ∧ w.heap.size < wr.heap.size ∧ Below w.heap.size w wr) (fun _ i _ => n - (intOf i).toNat)
  case atStart => exact ⟨0, rfl, Nat.zero_le _, by simp [countL], ⟨by simp, by simp, by simp, by simp, by simp, by simp⟩, by simp, (Below.refl _ _).alloc (Nat.le_refl _) _⟩
  case round =>
    obtain ⟨k, rfl, hk, rfl, hE, hsz, hbw⟩ := hrel
    have hcl : countL (es.take k) ⟨k0, who, q, m, c, d⟩ one two true ≤ 400 := by
      have h1 := List.countP_le_length (p := fun x => (decide (x.kind = one) || decide (x.kind = two)) && alikeE true ⟨k0, who, q, m, c, d⟩ x) (l := es.take k)
      have h2 : (es.take k).length ≤ es.length := List.length_take_le' k es
      unfold countL; omega
    by_cases hlt : k < n
    · obtain ⟨⟨xk, xw, xq, xm, xc, xd⟩, hx⟩ : ∃ e, es[k]? = some e := ⟨_, List.getElem?_eq_getElem (by omega)⟩
      have hE0 := hE
      obtain ⟨e0, e1, e2, e3, e4, e5⟩ := hE0
      obtain ⟨c0, c1, c2, c3, c4, c5⟩ := (hc k _ hx).below hbw hb
      simp only at e0 e1 e2 e3 e4 e5 c0 c1 c2 c3 c4 c5
      have HX := Lib.hid hx
      have HE := Lib.hid hE
      obtain ⟨s0, hs0⟩ : ∃ s0, countL (es.take k) ⟨k0, who, q, m, c, d⟩ one two true = s0 := ⟨_, rfl⟩
      rw [hs0] at hcl ⊢
      have HS := Lib.hid hs0
      clear hx hc hs0 hE
      go_wp2
      all_goals (try go_roundw)
      all_goals first
        | (case measure => simp [intOf]; omega)
        | (refine ⟨k + 1, by go_num, by omega, ?_, HE.out.alloc hsz _, by simp; omega, hbw.alloc (by omega) _⟩
           first
           | (rw [count_yes HX.out (by simp_all [matchE, alikeE]), HS.out]; go_num; done)
           | (rw [count_no HX.out (by simp_all [matchE, alikeE]), HS.out]; done))
        | (refine ⟨⟨k + 1, by go_num, by omega, ?_, HE.out.alloc hsz _, by simp; omega, hbw.alloc (by omega) _⟩, by simp [intOf]; omega⟩
           first
           | (rw [count_yes HX.out (by simp_all [matchE, alikeE]), HS.out]; go_num; done)
           | (rw [count_no HX.out (by simp_all [matchE, alikeE]), HS.out]; done))
    · obtain rfl : k = n := by omega
      go_wp2
      go_ret
      exact ⟨rfl, hbw⟩

set_option maxRecDepth 100000 in
set_option maxHeartbeats 8000000 in
theorem counted_false (b off cap n : Nat) (es : List Ent) (k0 who m c one two : Int) (q : ByteArray) (d : Bool) (w : World) (hl : es.length ≤ 400) (hn : n ≤ es.length) (hb : b < w.heap.size) (hc : ∀ i e, es[i]? = some e → EntAt w b (off + i * 6) e) :
    Calls Try.prog 41 #[.slice (some ⟨b, off, none⟩) es.length cap, .int .i64 n, .agg #[.int .i64 k0, .int .i64 who, .string q, .int .i64 m, .int .i64 c, .bool d], .int .i64 one, .int .i64 two, .bool false] w fun r w' =>
      r = .returned (.int .i64 (countL (es.take n) ⟨k0, who, q, m, c, d⟩ one two false)) ∧ Below w.heap.size w w' := by
  go_enter Try.func41, Try.ntmps41
  go_wp2
  go_loopw [13, 14] (fun s i wr => ∃ k : Nat, i = .int .i64 k ∧ k ≤ n ∧ s = .int .i64 (countL (es.take k) ⟨k0, who, q, m, c, d⟩ one two false) ∧ EntAt wr w.heap.size 0 ⟨k0, who, q, m, c, d⟩ ∧ w.heap.size < wr.heap.size ∧ Below w.heap.size w wr) (fun _ i _ => n - (intOf i).toNat)
  case atStart => exact ⟨0, rfl, Nat.zero_le _, by simp [countL], ⟨by simp, by simp, by simp, by simp, by simp, by simp⟩, by simp, (Below.refl _ _).alloc (Nat.le_refl _) _⟩
  case round =>
    obtain ⟨k, rfl, hk, rfl, hE, hsz, hbw⟩ := hrel
    have hcl : countL (es.take k) ⟨k0, who, q, m, c, d⟩ one two false ≤ 400 := by
      have h1 := List.countP_le_length (p := fun x => (decide (x.kind = one) || decide (x.kind = two)) && alikeE false ⟨k0, who, q, m, c, d⟩ x) (l := es.take k)
      have h2 : (es.take k).length ≤ es.length := List.length_take_le' k es
      unfold countL; omega
    by_cases hlt : k < n
    · obtain ⟨⟨xk, xw, xq, xm, xc, xd⟩, hx⟩ : ∃ e, es[k]? = some e := ⟨_, List.getElem?_eq_getElem (by omega)⟩
      have hE0 := hE
      obtain ⟨e0, e1, e2, e3, e4, e5⟩ := hE0
      obtain ⟨c0, c1, c2, c3, c4, c5⟩ := (hc k _ hx).below hbw hb
      simp only at e0 e1 e2 e3 e4 e5 c0 c1 c2 c3 c4 c5
      have HX := Lib.hid hx
      have HE := Lib.hid hE
      obtain ⟨s0, hs0⟩ : ∃ s0, countL (es.take k) ⟨k0, who, q, m, c, d⟩ one two false = s0 := ⟨_, rfl⟩
      rw [hs0] at hcl ⊢
      have HS := Lib.hid hs0
      clear hx hc hs0 hE
      go_wp2
      all_goals (try go_roundw)
      all_goals first
        | (case measure => simp [intOf]; omega)
        | (refine ⟨k + 1, by go_num, by omega, ?_, HE.out.alloc hsz _, by simp; omega, hbw.alloc (by omega) _⟩
           first
           | (rw [count_yes HX.out (by simp_all [matchE, alikeE]), HS.out]; go_num; done)
           | (rw [count_no HX.out (by simp_all [matchE, alikeE]), HS.out]; done))
        | (refine ⟨⟨k + 1, by go_num, by omega, ?_, HE.out.alloc hsz _, by simp; omega, hbw.alloc (by omega) _⟩, by simp [intOf]; omega⟩
           first
           | (rw [count_yes HX.out (by simp_all [matchE, alikeE]), HS.out]; go_num; done)
           | (rw [count_no HX.out (by simp_all [matchE, alikeE]), HS.out]; done))
    · obtain rfl : k = n := by omega
      go_wp2
      go_ret
      exact ⟨rfl, hbw⟩

theorem counted_any (cnt : Bool) (n : Nat) (sv : Value) (es : List Ent) (k : Nat) (e : Ent) (one two : Int) (w : World) (hl : es.length ≤ 400) (hk : k ≤ es.length) (hn : n ≤ w.heap.size) (h : HistAt n w sv es) :
    Calls Try.prog 41 #[sv, .int .i64 k, e.val, .int .i64 one, .int .i64 two, .bool cnt] w fun r w' => r = .returned (.int .i64 (countL (es.take k) e one two cnt)) ∧ Below w.heap.size w w' := by
  rcases h with ⟨p, c, rfl, rfl⟩ | ⟨b, off, cap, rfl, hb, hc⟩
  · obtain rfl : k = 0 := by simpa using hk
    go_enter Try.func41, Try.ntmps41
    go_wp2
    refine wp_loop_rounds 1 ?_
    rw [rounds_succ]
    go_wp2
    go_ret
    exact ⟨ret_int (by simp [countL]), (Below.refl _ _).alloc (Nat.le_refl _) _⟩
  · cases cnt
    · exact counted_false b off cap k es e.kind e.who e.msg e.count one two e.queue e.dur w hl hk (by omega) hc
    · exact counted_true b off cap k es e.kind e.who e.msg e.count one two e.queue e.dur w hl hk (by omega) hc

end Go.Proofs.Ytgincippgaecfaa.Au
