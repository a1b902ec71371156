/-
  The program's ContainsFunc over the two closures of got. No condition but what each closure answers.
-/
import Derived.Test.YtgincippgaecfaaJB
import Derived.Test.YtgincippgaecfaaH2
import Derived.Test.YtgincippgaecfaaJ5
namespace Go.Proofs.Ytgincippgaecfaa.Au
open Go Go.RowKit

theorem any_hit {es : List Ent} {k : Nat} {e : Ent} {p : Ent → Bool} (he : es[k]? = some e) (h : p e = true) : es.any p = true := List.any_eq_true.2 ⟨e, List.mem_of_getElem? he, h⟩
theorem any_snoc {es : List Ent} {k : Nat} {e : Ent} {p : Ent → Bool} (he : es[k]? = some e) (h0 : (es.take k).any p = false) (h : p e = false) : (es.take (k + 1)).any p = false := by
  rw [any_step he, h0, h]; rfl

set_option maxRecDepth 100000 in
set_option maxHeartbeats 1000000 in
theorem index54_some (bj be b off cap : Nat) (es : List Ent) (p : Ent → Bool) (w : World) (hl : es.length ≤ 400) (hb : b < w.heap.size) (hc : ∀ i e, es[i]? = some e → EntAt w b (off + i * 6) e)
    (hp : ∀ W, Below w.heap.size w W → ∀ x ∈ es, Calls Try.prog 54 #[x.val, .pointer (some ⟨bj, 0, none⟩), .pointer (some ⟨be, 0, none⟩)] W fun r w' => r = .returned (.bool (p x)) ∧ Below W.heap.size W w') :
    Calls Try.prog 52 #[.slice (some ⟨b, off, none⟩) es.length cap, .func (.func 54) #[] #[.pointer (some ⟨bj, 0, none⟩), .pointer (some ⟨be, 0, none⟩)]] w fun r w' => (∃ i : Int, r = .returned (.int .i64 i) ∧ decide (0 ≤ i) = es.any p) ∧ Below w.heap.size w w' := by
  go_enter Try.func52, Try.ntmps52
  go_wp2
  go_loopw [8] (fun i wr => ∃ k : Nat, i = .int .i64 k ∧ k ≤ es.length ∧ (es.take k).any p = false ∧ Below w.heap.size w wr) (fun i _ => es.length - (intOf i).toNat)
  case atStart => exact ⟨0, rfl, Nat.zero_le _, by simp, Below.refl _ _⟩
  case round =>
    obtain ⟨k, rfl, hk, hall, hbw⟩ := hrel
    by_cases hlt : k < es.length
    · obtain ⟨e, he⟩ : ∃ e, es[k]? = some e := ⟨_, List.getElem?_eq_getElem hlt⟩
      obtain ⟨c0, c1, c2, c3, c4, c5⟩ := (hc k e he).below hbw hb
      have hcall := hp wr hbw e (List.mem_of_getElem? he)
      have HE := Lib.hid he
      have HA := Lib.hid hall
      clear he hall hc hp
      cases hok : p e with
      | true =>
        rw [hok] at hcall
        have HO := Lib.hid hok
        clear hok
        go_wp2_with (go_at_call 54; refine hcall.mono ?_; rintro r w' ⟨rfl, hb'⟩)
        go_ret
        exact ⟨⟨k, rfl, by rw [any_hit HE.out HO.out]; simp⟩, hbw.trans (hb'.mono hbw.size)⟩
      | false =>
        rw [hok] at hcall
        have HO := Lib.hid hok
        clear hok
        go_wp2_with (go_at_call 54; refine hcall.mono ?_; rintro r w' ⟨rfl, hb'⟩)
        go_roundw
        case rel => exact ⟨k + 1, by go_num, by omega, any_snoc HE.out HA.out HO.out, hbw.trans (hb'.mono hbw.size)⟩
        case measure => simp [intOf]; omega
    · obtain rfl : k = es.length := by omega
      rw [List.take_length] at hall
      have HA := Lib.hid hall
      clear hall hc hp
      go_wp2
      go_ret
      exact ⟨⟨-1, rfl, by rw [HA.out]; rfl⟩, hbw⟩

set_option maxHeartbeats 400000 in
theorem index54_nil (bj be : Nat) (a : Option Addr) (c : Nat) (p : Ent → Bool) (w : World) : Calls Try.prog 52 #[.slice a 0 c, .func (.func 54) #[] #[.pointer (some ⟨bj, 0, none⟩), .pointer (some ⟨be, 0, none⟩)]] w fun r w' => (∃ i : Int, r = .returned (.int .i64 i) ∧ decide (0 ≤ i) = ([] : List Ent).any p) ∧ Below w.heap.size w w' := by
  go_enter Try.func52, Try.ntmps52
  go_wp2
  refine wp_loop_rounds 1 ?_
  rw [rounds_succ]
  go_wp2
  go_ret
  exact ⟨⟨-1, rfl, rfl⟩, Below.refl _ _⟩

set_option maxHeartbeats 400000 in
theorem contains54_any (bj be n : Nat) (sv : Value) (es : List Ent) (p : Ent → Bool) (w : World) (hl : es.length ≤ 400) (h : HistAt n w sv es) (hn : n ≤ w.heap.size)
    (hp : ∀ W, Below w.heap.size w W → ∀ x ∈ es, Calls Try.prog 54 #[x.val, .pointer (some ⟨bj, 0, none⟩), .pointer (some ⟨be, 0, none⟩)] W fun r w' => r = .returned (.bool (p x)) ∧ Below W.heap.size W w') :
    Calls Try.prog 35 #[sv, .func (.func 54) #[] #[.pointer (some ⟨bj, 0, none⟩), .pointer (some ⟨be, 0, none⟩)]] w fun r w' => r = .returned (.bool (es.any p)) ∧ Below w.heap.size w w' := by
  have hx : Calls Try.prog 52 #[sv, .func (.func 54) #[] #[.pointer (some ⟨bj, 0, none⟩), .pointer (some ⟨be, 0, none⟩)]] w fun r w' => (∃ i : Int, r = .returned (.int .i64 i) ∧ decide (0 ≤ i) = es.any p) ∧ Below w.heap.size w w' := by
    rcases h with ⟨a, c, rfl, rfl⟩ | ⟨b, off, cap, rfl, hb, hc⟩
    · exact index54_nil bj be a c p w
    · exact index54_some bj be b off cap es p w hl (by omega) hc hp
  clear hp
  go_enter Try.func35, Try.ntmps35
  go_wp2_with (go_at_call 52; refine hx.mono ?_; rintro r w' ⟨⟨i, rfl, hi⟩, hb'⟩; have HI := Lib.hid hi; clear hi)
  go_ret
  exact ⟨ret_bool HI.out, hb'⟩

set_option maxRecDepth 100000 in
set_option maxHeartbeats 1000000 in
theorem index56_some (be b off cap : Nat) (es : List Ent) (p : Ent → Bool) (w : World) (hl : es.length ≤ 400) (hb : b < w.heap.size) (hc : ∀ i e, es[i]? = some e → EntAt w b (off + i * 6) e)
    (hp : ∀ W, Below w.heap.size w W → ∀ x ∈ es, Calls Try.prog 56 #[x.val, .pointer (some ⟨be, 0, none⟩)] W fun r w' => r = .returned (.bool (p x)) ∧ Below W.heap.size W w') :
    Calls Try.prog 52 #[.slice (some ⟨b, off, none⟩) es.length cap, .func (.func 56) #[] #[.pointer (some ⟨be, 0, none⟩)]] w fun r w' => (∃ i : Int, r = .returned (.int .i64 i) ∧ decide (0 ≤ i) = es.any p) ∧ Below w.heap.size w w' := by
  go_enter Try.func52, Try.ntmps52
  go_wp2
  go_loopw [8] (fun i wr => ∃ k : Nat, i = .int .i64 k ∧ k ≤ es.length ∧ (es.take k).any p = false ∧ Below w.heap.size w wr) (fun i _ => es.length - (intOf i).toNat)
  case atStart => exact ⟨0, rfl, Nat.zero_le _, by simp, Below.refl _ _⟩
  case round =>
    obtain ⟨k, rfl, hk, hall, hbw⟩ := hrel
    by_cases hlt : k < es.length
    · obtain ⟨e, he⟩ : ∃ e, es[k]? = some e := ⟨_, List.getElem?_eq_getElem hlt⟩
      obtain ⟨c0, c1, c2, c3, c4, c5⟩ := (hc k e he).below hbw hb
      have hcall := hp wr hbw e (List.mem_of_getElem? he)
      have HE := Lib.hid he
      have HA := Lib.hid hall
      clear he hall hc hp
      cases hok : p e with
      | true =>
        rw [hok] at hcall
        have HO := Lib.hid hok
        clear hok
        go_wp2_with (go_at_call 56; refine hcall.mono ?_; rintro r w' ⟨rfl, hb'⟩)
        go_ret
        exact ⟨⟨k, rfl, by rw [any_hit HE.out HO.out]; simp⟩, hbw.trans (hb'.mono hbw.size)⟩
      | false =>
        rw [hok] at hcall
        have HO := Lib.hid hok
        clear hok
        go_wp2_with (go_at_call 56; refine hcall.mono ?_; rintro r w' ⟨rfl, hb'⟩)
        go_roundw
        case rel => exact ⟨k + 1, by go_num, by omega, any_snoc HE.out HA.out HO.out, hbw.trans (hb'.mono hbw.size)⟩
        case measure => simp [intOf]; omega
    · obtain rfl : k = es.length := by omega
      rw [List.take_length] at hall
      have HA := Lib.hid hall
      clear hall hc hp
      go_wp2
      go_ret
      exact ⟨⟨-1, rfl, by rw [HA.out]; rfl⟩, hbw⟩

set_option maxHeartbeats 400000 in
theorem index56_nil (be : Nat) (a : Option Addr) (c : Nat) (p : Ent → Bool) (w : World) : Calls Try.prog 52 #[.slice a 0 c, .func (.func 56) #[] #[.pointer (some ⟨be, 0, none⟩)]] w fun r w' => (∃ i : Int, r = .returned (.int .i64 i) ∧ decide (0 ≤ i) = ([] : List Ent).any p) ∧ Below w.heap.size w w' := by
  go_enter Try.func52, Try.ntmps52
  go_wp2
  refine wp_loop_rounds 1 ?_
  rw [rounds_succ]
  go_wp2
  go_ret
  exact ⟨⟨-1, rfl, rfl⟩, Below.refl _ _⟩

set_option maxHeartbeats 400000 in
theorem contains56_any (be n : Nat) (sv : Value) (es : List Ent) (p : Ent → Bool) (w : World) (hl : es.length ≤ 400) (h : HistAt n w sv es) (hn : n ≤ w.heap.size)
    (hp : ∀ W, Below w.heap.size w W → ∀ x ∈ es, Calls Try.prog 56 #[x.val, .pointer (some ⟨be, 0, none⟩)] W fun r w' => r = .returned (.bool (p x)) ∧ Below W.heap.size W w') :
    Calls Try.prog 35 #[sv, .func (.func 56) #[] #[.pointer (some ⟨be, 0, none⟩)]] w fun r w' => r = .returned (.bool (es.any p)) ∧ Below w.heap.size w w' := by
  have hx : Calls Try.prog 52 #[sv, .func (.func 56) #[] #[.pointer (some ⟨be, 0, none⟩)]] w fun r w' => (∃ i : Int, r = .returned (.int .i64 i) ∧ decide (0 ≤ i) = es.any p) ∧ Below w.heap.size w w' := by
    rcases h with ⟨a, c, rfl, rfl⟩ | ⟨b, off, cap, rfl, hb, hc⟩
    · exact index56_nil be a c p w
    · exact index56_some be b off cap es p w hl (by omega) hc hp
  clear hp
  go_enter Try.func35, Try.ntmps35
  go_wp2_with (go_at_call 52; refine hx.mono ?_; rintro r w' ⟨⟨i, rfl, hi⟩, hb'⟩; have HI := Lib.hid hi; clear hi)
  go_ret
  exact ⟨ret_bool HI.out, hb'⟩

set_option maxRecDepth 100000 in
set_option maxHeartbeats 1000000 in
/-- got's first closure: does a way lead from there? -/
theorem got1_any (base hd N jb bj be : Nat) (fd : Value → Value) (qs : List Qc) (x : Ent) (q : ByteArray) (w : World) (hq : qs.length * 56 ≤ 140737488351232) (hj : w.cell? ⟨jb, 0, none⟩ = some (.map (some hd))) (hjb : jb < w.heap.size) (hD : DeadAt base w hd N fd qs) (hx : x.queue.size ≤ maxLen)
    (cj : w.cell? ⟨bj, 0, none⟩ = some (.pointer (some ⟨jb, 0, none⟩))) (ce : w.cell? ⟨be, 2, none⟩ = some (.string q)) (hbj : bj < w.heap.size) (hbe : be < w.heap.size) :
    Calls Try.prog 54 #[x.val, .pointer (some ⟨bj, 0, none⟩), .pointer (some ⟨be, 0, none⟩)] w fun r w' => r = .returned (.bool (leadsB qs x.queue.toList q.toList)) ∧ Below w.heap.size w w' := by
  obtain ⟨k, who, xq, m, c, d⟩ := x
  have hB := (Below.refl w.heap.size w).alloc (Nat.le_refl _) (.cells #[.int .i64 k, .int .i64 who, .string xq, .int .i64 m, .int .i64 c, .bool d] 55 (0, 0))
  have hled := pleads_any base hd N jb fd qs xq q _ hq ((hB.cell (p := ⟨jb, 0, none⟩) hjb).trans hj) (Nat.lt_of_lt_of_le hjb hB.size) (hD.below hB) hx
  have cj2 := (hB.cell (p := ⟨bj, 0, none⟩) hbj).trans cj
  have ce2 := (hB.cell (p := ⟨be, 2, none⟩) hbe).trans ce
  have HB := Lib.hid hB
  clear hB hD hj cj ce
  go_enter Try.func54, Try.ntmps54
  go_wp2_with (go_at_call 55; refine hled.mono ?_; clear hled; rintro r w' ⟨rfl, hb'⟩)
  go_ret
  exact ⟨rfl, HB.out.trans (hb'.mono HB.out.size)⟩

set_option maxRecDepth 100000 in
set_option maxHeartbeats 1000000 in
/-- got's second closure: as durable? -/
theorem got2_any (be : Nat) (x : Ent) (d : Bool) (w : World) (ce : w.cell? ⟨be, 5, none⟩ = some (.bool d)) (hbe : be < w.heap.size) :
    Calls Try.prog 56 #[x.val, .pointer (some ⟨be, 0, none⟩)] w fun r w' => r = .returned (.bool (x.dur == d)) ∧ Below w.heap.size w w' := by
  obtain ⟨k, who, xq, m, c, xd⟩ := x
  have hB := (Below.refl w.heap.size w).alloc (Nat.le_refl _) (.cells #[.int .i64 k, .int .i64 who, .string xq, .int .i64 m, .int .i64 c, .bool xd] 55 (0, 0))
  have ce2 := (hB.cell (p := ⟨be, 5, none⟩) hbe).trans ce
  have HB := Lib.hid hB
  clear hB ce
  go_enter Try.func56, Try.ntmps56
  go_wp2
  go_ret
  exact ⟨rfl, HB.out⟩

end Go.Proofs.Ytgincippgaecfaa.Au
