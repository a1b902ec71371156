/-
  Order of the program, and of the reference, at whatever history: what they tell is one. No condition but the reach.
-/
import Derived.Test.YtgincippgaecfaaO1
namespace Go.Proofs.Ytgincippgaecfaa.Au
open Go Go.RowKit

theorem histE_cases (es : List Ent) : histE es = 0 ∨ histE es = 2 ∨ histE es = 270 := by
  unfold histE
  split
  · exact .inr (.inl rfl)
  · split
    · exact .inl rfl
    · exact .inr (.inr rfl)
theorem histE_len {es : List Ent} (h : histE es = 0) : es.length ≤ 400 := by
  unfold histE at h
  split at h
  · cases h
  · omega

theorem orderB_good {es : List Ent} {q : List UInt8} {who : Int} (h : histE es = 0) (h1 : 1 ≤ who) (h8 : who ≤ 8) : orderB es q who = orderR es q who := by simp [orderB, h, h1, h8]
theorem orderE_good {es : List Ent} {who : Int} (h : histE es = 0) (h1 : 1 ≤ who) (h8 : who ≤ 8) : orderE es who = 0 := by simp [orderE, h, h1, h8]
theorem orderB_bad {es : List Ent} {q : List UInt8} {who : Int} (h : ¬ histE es = 0) : orderB es q who = false := by simp [orderB, h]
theorem orderE_bad {es : List Ent} {who : Int} (h : ¬ histE es = 0) : orderE es who = histE es := by simp [orderE, h]
theorem orderB_who {es : List Ent} {q : List UInt8} {who : Int} (h : ¬ (1 ≤ who ∧ who ≤ 8)) : orderB es q who = false := by
  unfold orderB
  by_cases h1 : 1 ≤ who
  · have : ¬ who ≤ 8 := fun h8 => h ⟨h1, h8⟩
    simp [this]
  · simp [h1]
theorem orderE_who {es : List Ent} {who : Int} (h0 : histE es = 0) (h : ¬ (1 ≤ who ∧ who ≤ 8)) : orderE es who = 1 := by simp [orderE, h0, h]

set_option maxRecDepth 100000 in
set_option maxHeartbeats 2000000 in
theorem order_bad (a : Option Addr) (len cap : Nat) (who E : Int) (q : ByteArray) (w : World) (hE : E = 2 ∨ E = 270)
    (hA : ∀ W, Below w.heap.size w W → Calls Try.prog 20 #[.slice a len cap] W fun r w' => r = .returned (.int .i64 E) ∧ Below W.heap.size W w') :
    Calls Try.prog 17 #[.string q, .int .i64 who, .slice a len cap] w fun e W' => e = .returned (.tuple #[.bool false, .int .i64 E]) ∧ Below w.heap.size w W' := by
  have hA2 := hA ((w.alloc (.cells #[.string q] 9)).alloc (.cells #[.int .i64 who] 3)) (((Below.refl _ w).alloc (Nat.le_refl _) _).alloc (by simp) _)
  clear hA
  go_enter Try.func17, Try.ntmps17
  go_wp2_with (go_at_call 20; refine hA2.mono ?_; rintro r w1 ⟨rfl, hb1⟩)
  all_goals first
    | (go_ret2; exact ⟨rfl, (((Below.refl _ w).alloc (Nat.le_refl _) _).alloc (by simp) _).trans (hb1.mono (by simp; omega))⟩)
    | omega

set_option maxRecDepth 100000 in
set_option maxHeartbeats 2000000 in
theorem order_who (a : Option Addr) (len cap : Nat) (who : Int) (q : ByteArray) (w : World) (hw : ¬ (1 ≤ who ∧ who ≤ 8))
    (hA : ∀ W, Below w.heap.size w W → Calls Try.prog 20 #[.slice a len cap] W fun r w' => r = .returned (.int .i64 0) ∧ Below W.heap.size W w') :
    Calls Try.prog 17 #[.string q, .int .i64 who, .slice a len cap] w fun e W' => e = .returned (.tuple #[.bool false, .int .i64 1]) ∧ Below w.heap.size w W' := by
  have hA2 := hA ((w.alloc (.cells #[.string q] 9)).alloc (.cells #[.int .i64 who] 3)) (((Below.refl _ w).alloc (Nat.le_refl _) _).alloc (by simp) _)
  have bW0 := Boxed.new (w.alloc (.cells #[.string q] 9)) 3 (.int .i64 who)
  rw [World.size_alloc] at bW0
  have hT := fun W1 (h1 : Below ((w.alloc (.cells #[.string q] 9)).alloc (.cells #[.int .i64 who] 3)).heap.size ((w.alloc (.cells #[.string q] 9)).alloc (.cells #[.int .i64 who] 3)) W1) => Lib.hid (show Boxed W1 (w.heap.size + 1) 3 (.int .i64 who) from (h1.block _ (by simp)).trans bW0)
  clear hA bW0
  go_enter Try.func17, Try.ntmps17
  go_wp2_with (go_at_call 20; refine hA2.mono ?_; rintro r w1 ⟨rfl, hb1⟩; have cW := (hT _ hb1).out.cell; clear hT)
  all_goals first
    | (go_ret2; exact ⟨rfl, (((Below.refl _ w).alloc (Nat.le_refl _) _).alloc (by simp) _).trans (hb1.mono (by simp; omega))⟩)
    | omega

theorem order_any (n : Nat) (sv : Value) (es : List Ent) (who : Int) (q : ByteArray) (w : World) (h : HistAt n w sv es) (hn : n ≤ w.heap.size) (hwf : ∀ e ∈ es, (Lit.int .i64 e.msg).wf = true) :
    Calls Try.prog 17 #[.string q, .int .i64 who, sv] w fun e W' => e = .returned (.tuple #[.bool (orderB es q.toList who), .int .i64 (orderE es who)]) ∧ Below w.heap.size w W' := by
  obtain ⟨a, cap, rfl⟩ := h.len
  have hA : ∀ W, Below w.heap.size w W → Calls Try.prog 20 #[.slice a es.length cap] W fun r w' => r = .returned (.int .i64 (histE es)) ∧ Below W.heap.size W w' := fun W hb =>
    amiss_any n _ es W (h.below (hb.mono hn)) (Nat.le_trans hn hb.size)
  by_cases h0 : histE es = 0
  · by_cases hw : 1 ≤ who ∧ who ≤ 8
    · rw [orderB_good h0 hw.1 hw.2, orderE_good h0 hw.1 hw.2]
      exact callsIn_wide.1 (order_good n a cap es who q w h hn (histE_len h0) hw.1 hw.2 h0 hwf)
    · rw [orderB_who hw, orderE_who h0 hw]
      exact order_who a _ cap who q w hw (by rw [h0] at hA; exact hA)
  · rw [orderB_bad h0, orderE_bad h0]
    exact order_bad a _ cap who _ q w (by rcases histE_cases es with h | h | h <;> first | exact absurd h h0 | exact .inl h | exact .inr h) hA

set_option maxRecDepth 100000 in
set_option maxHeartbeats 2000000 in
theorem rorder_bad (sv : Value) (who E : Int) (q : ByteArray) (w : World) (hE : E = 2 ∨ E = 270)
    (hA : Calls Try.prog 22 #[sv] w fun r w' => r = .returned (.int .i64 E) ∧ Below w.heap.size w w') :
    Calls Try.prog 18 #[.string q, .int .i64 who, sv] w fun e W' => e = .returned (.tuple #[.bool false, .int .i64 E]) ∧ Below w.heap.size w W' := by
  go_enter Try.func18, Try.ntmps18
  go_wp2_with (go_at_call 22; refine hA.mono ?_; rintro r w1 ⟨rfl, hb1⟩)
  all_goals first
    | (go_ret2; exact ⟨rfl, hb1⟩)
    | omega

set_option maxRecDepth 100000 in
set_option maxHeartbeats 2000000 in
theorem rorder_who (sv : Value) (who : Int) (q : ByteArray) (w : World) (hw : ¬ (1 ≤ who ∧ who ≤ 8))
    (hA : Calls Try.prog 22 #[sv] w fun r w' => r = .returned (.int .i64 0) ∧ Below w.heap.size w w') :
    Calls Try.prog 18 #[.string q, .int .i64 who, sv] w fun e W' => e = .returned (.tuple #[.bool false, .int .i64 1]) ∧ Below w.heap.size w W' := by
  go_enter Try.func18, Try.ntmps18
  go_wp2_with (go_at_call 22; refine hA.mono ?_; rintro r w1 ⟨rfl, hb1⟩)
  all_goals first
    | (go_ret2; exact ⟨rfl, hb1⟩)
    | omega

set_option maxRecDepth 100000 in
set_option maxHeartbeats 2000000 in
theorem rorder_nil (p : Option Addr) (c : Nat) (who : Int) (q : ByteArray) (w : World) (h1 : 1 ≤ who) (h8 : who ≤ 8)
    (hA : Calls Try.prog 22 #[.slice p 0 c] w fun r w' => r = .returned (.int .i64 0) ∧ Below w.heap.size w w') :
    Calls Try.prog 18 #[.string q, .int .i64 who, .slice p 0 c] w fun e W' => e = .returned (.tuple #[.bool true, .int .i64 0]) ∧ Below w.heap.size w W' := by
  go_enter Try.func18, Try.ntmps18
  go_wp2_with (go_at_call 22; refine hA.mono ?_; rintro r w1 ⟨rfl, hb1⟩)
  refine wp_loop_rounds 1 ?_
  rw [rounds_succ]
  go_wp2
  go_ret2
  exact ⟨rfl, hb1⟩

theorem rorder_any (n : Nat) (sv : Value) (es : List Ent) (who : Int) (q : ByteArray) (w : World) (h : HistAt n w sv es) (hn : n ≤ w.heap.size) :
    Calls Try.prog 18 #[.string q, .int .i64 who, sv] w fun e W' => e = .returned (.tuple #[.bool (orderB es q.toList who), .int .i64 (orderE es who)]) ∧ Below w.heap.size w W' := by
  have hA := history_any n sv es w h hn
  by_cases h0 : histE es = 0
  · rw [h0] at hA
    by_cases hw : 1 ≤ who ∧ who ≤ 8
    · rw [orderB_good h0 hw.1 hw.2, orderE_good h0 hw.1 hw.2]
      rcases h with ⟨p, c, rfl, rfl⟩ | ⟨b, off, cap, rfl, hb, hc⟩
      · exact rorder_nil p c who q w hw.1 hw.2 hA
      · exact rorder_good n b off cap es who q w hb hn (histE_len h0) hw.1 hw.2 hc h0
    · rw [orderB_who hw, orderE_who h0 hw]
      exact rorder_who sv who q w hw hA
  · rw [orderB_bad h0, orderE_bad h0]
    exact rorder_bad sv who _ q w (by rcases histE_cases es with h | h | h <;> first | exact absurd h h0 | exact .inl h | exact .inr h) hA

end Go.Proofs.Ytgincippgaecfaa.Au
