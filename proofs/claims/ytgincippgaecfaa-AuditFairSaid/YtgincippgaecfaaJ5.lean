/-
  The reference's got: its walk. No condition but the reach.
-/
import Derived.Test.YtgincippgaecfaaJ4
namespace Go.Proofs.Ytgincippgaecfaa.Au
open Go Go.RowKit

def sentE (e x : Ent) : Bool := decide (x.msg = e.msg) && decide (x.kind = 1)
noncomputable def wayT (qs : List Qc) (e x : Ent) : Bool := decide (x.msg = e.msg) && decide (x.kind = 1) && leadsB qs x.queue.toList e.queue.toList
def durE (e x : Ent) : Bool := decide (x.msg = e.msg) && decide (x.kind = 1) && (x.dur == e.dur)
def backE (e x : Ent) : Bool := decide (x.msg = e.msg) && decide (x.kind = 6)
theorem any_step {es : List Ent} {k : Nat} {x : Ent} (hx : es[k]? = some x) (f : Ent → Bool) : (es.take (k + 1)).any f = ((es.take k).any f || f x) := by
  rw [List.take_add_one, hx]; simp
theorem countP_step {es : List Ent} {k : Nat} {x : Ent} (hx : es[k]? = some x) (f : Ent → Bool) : (es.take (k + 1)).countP f = (es.take k).countP f + if f x then 1 else 0 := by
  rw [List.take_add_one, hx]
  simp only [Option.toList_some, List.countP_append, List.countP_cons, List.countP_nil, Nat.zero_add]
theorem gotL_eq (qs : List Qc) (h : List Ent) (e : Ent) {s y d : Bool} {b : Nat} (hs : h.any (sentE e) = s) (hy : (!beginsB e.queue.toList queueB || h.any (wayT qs e)) = y) (hd : h.any (durE e) = d) (hb : h.countP (backE e) = b) :
    gotL qs h e = if (!s) = true then 2 else if (!y) = true then 3 else if (!d) = true then 4 else if (b : Int) < e.count then 5 else 0 := by
  subst hs hy hd hb
  rfl

/-- Between two rounds of got. -/
structure GW (w : World) (qs : List Qc) (es : List Ent) (e : Ent) (k : Nat) (s y d b : Value) (W : World) : Prop where
  s : s = .bool ((es.take k).any (sentE e))
  y : y = .bool (!beginsB e.queue.toList queueB || (es.take k).any (wayT qs e))
  d : d = .bool ((es.take k).any (durE e))
  b : b = .int .i64 ((es.take k).countP (backE e))
  ent : EntAt W w.heap.size 0 e
  size : w.heap.size < W.heap.size
  below : Below w.heap.size w W

theorem GW.skip {w W W' : World} {qs : List Qc} {es : List Ent} {e x : Ent} {k : Nat} {s y d b : Value} (h : GW w qs es e k s y d b W) (hx : es[k]? = some x) (hm : ¬ x.msg = e.msg) (hw : Below W.heap.size W W') : GW w qs es e (k + 1) s y d b W' := by
  obtain ⟨h1, h2, h3, h4, h5, h6, h7⟩ := h
  refine ⟨?_, ?_, ?_, ?_, h5.below hw h6, Nat.lt_of_lt_of_le h6 hw.size, h7.trans (hw.mono h7.size)⟩
  · rw [any_step hx, h1]; simp [sentE, hm]
  · rw [any_step hx, h2]; simp [wayT, hm]
  · rw [any_step hx, h3]; simp [durE, hm]
  · rw [countP_step hx, h4]; simp [backE, hm]
theorem GW.back {w W W' : World} {qs : List Qc} {es : List Ent} {e x : Ent} {k : Nat} {s y d b b' : Value} (h : GW w qs es e k s y d b W) (hx : es[k]? = some x) (hm : x.msg = e.msg) (hk : x.kind = 6) (hb : ∀ n : Nat, b = .int .i64 n → n ≤ 400 → b' = .int .i64 (n + 1)) (hl : es.length ≤ 400) (hw : Below W.heap.size W W') : GW w qs es e (k + 1) s y d b' W' := by
  obtain ⟨h1, h2, h3, h4, h5, h6, h7⟩ := h
  refine ⟨?_, ?_, ?_, ?_, h5.below hw h6, Nat.lt_of_lt_of_le h6 hw.size, h7.trans (hw.mono h7.size)⟩
  · rw [any_step hx, h1]; simp [sentE, hk]
  · rw [any_step hx, h2]; simp [wayT, hk]
  · rw [any_step hx, h3]; simp [durE, hk]
  · have h1 := List.countP_le_length (p := backE e) (l := es.take k)
    have h2 := List.length_take_le' k es
    rw [countP_step hx, hb _ h4 (by omega)]; simp [backE, hm, hk]
theorem GW.other {w W W' : World} {qs : List Qc} {es : List Ent} {e x : Ent} {k : Nat} {s y d b : Value} (h : GW w qs es e k s y d b W) (hx : es[k]? = some x) (hk : ¬ x.kind = 1) (hk6 : ¬ x.kind = 6) (hw : Below W.heap.size W W') : GW w qs es e (k + 1) s y d b W' := by
  obtain ⟨h1, h2, h3, h4, h5, h6, h7⟩ := h
  refine ⟨?_, ?_, ?_, ?_, h5.below hw h6, Nat.lt_of_lt_of_le h6 hw.size, h7.trans (hw.mono h7.size)⟩
  · rw [any_step hx, h1]; simp [sentE, hk]
  · rw [any_step hx, h2]; simp [wayT, hk]
  · rw [any_step hx, h3]; simp [durE, hk]
  · rw [countP_step hx, h4]; simp [backE, hk6]
theorem GW.sent {w W W' : World} {qs : List Qc} {es : List Ent} {e x : Ent} {k : Nat} {s y d b y' d' : Value} (h : GW w qs es e k s y d b W) (hx : es[k]? = some x) (hm : x.msg = e.msg) (hk : x.kind = 1)
    (hy : ∀ v, y = .bool v → y' = .bool (v || leadsB qs x.queue.toList e.queue.toList)) (hd : ∀ v, d = .bool v → d' = .bool (v || (x.dur == e.dur))) (hw : Below W.heap.size W W') : GW w qs es e (k + 1) (.bool true) y' d' b W' := by
  obtain ⟨h1, h2, h3, h4, h5, h6, h7⟩ := h
  refine ⟨?_, ?_, ?_, ?_, h5.below hw h6, Nat.lt_of_lt_of_le h6 hw.size, h7.trans (hw.mono h7.size)⟩
  · rw [any_step hx]; simp [sentE, hk, hm]
  · rw [any_step hx, hy _ h2]; simp [wayT, hk, hm, Bool.or_assoc]
  · rw [any_step hx, hd _ h3]; simp [durE, hk, hm]
  · rw [countP_step hx, h4]; simp [backE, hk]

set_option maxRecDepth 100000 in
set_option maxHeartbeats 16000000 in
theorem got_some (B : Nat) (sv : Value) (qs : List Qc) (b off cap n : Nat) (es : List Ent) (e : Ent) (w : World) (hq : qs.length * 56 ≤ 140737488351232) (hB : B ≤ w.heap.size) (hs : QsAt B w sv qs) (hl : es.length ≤ 400) (he : es[n]? = some e) (hb : b < w.heap.size) (hc : ∀ i e, es[i]? = some e → EntAt w b (off + i * 6) e) :
    Calls Try.prog 42 #[sv, .slice (some ⟨b, off, none⟩) es.length cap, .int .i64 n] w fun r w' => r = .returned (.int .i64 (gotL qs (es.take n) e)) ∧ Below w.heap.size w w' := by
  have hn : n < es.length := (List.getElem?_eq_some_iff.1 he).1
  have hled : ∀ (s t : ByteArray) W, Below w.heap.size w W → Calls Try.prog 58 #[sv, .string s, .string t] W fun r w' => r = .returned (.bool (leadsB qs s.toList t.toList)) ∧ Below W.heap.size W w' := fun s t W hW =>
    leads_any W.heap.size sv qs s t W hq (Nat.le_refl _) ((hs.mono hB).below hW |>.mono hW.size)
  obtain ⟨y0, hy0⟩ : ∃ y0, beginsB e.queue.toList queueB = y0 := ⟨_, rfl⟩
  have hbe : ∀ W, Calls Try.prog 57 #[.string e.queue, .string ⟨#[113, 117, 101, 117, 101, 47]⟩] W fun r w' => r = .returned (.bool y0) ∧ w' = W := fun W => by
    have := begins_any e.queue queueA W
    rwa [queueA_list, hy0] at this
  obtain ⟨d0, d1, d2, d3, d4, d5⟩ := hc n e he
  have HY := Lib.hid hy0
  clear hy0 he hs
  go_enter Try.func42, Try.ntmps42
  go_wp2_with (first
    | (go_at_call 57; refine (hbe _).mono ?_; rintro r w2 ⟨rfl, hw2⟩; cases hw2)
    | go_in)
  go_loopw [8, 9, 10, 11, 12] (fun s y d bk i wr => ∃ k : Nat, i = .int .i64 k ∧ k ≤ n ∧ GW w qs es e k s y d bk wr) (fun _ _ _ _ i _ => n - (intOf i).toNat)
  case atStart => exact ⟨0, rfl, Nat.zero_le _, by simp, by simp [HY.out], by simp, by simp, ⟨by simp, by simp, by simp, by simp, by simp, by simp⟩, by simp, (Below.refl _ _).alloc (Nat.le_refl _) _⟩
  case round =>
    obtain ⟨k, rfl, hk, hW⟩ := hrel
    have hbk : (es.take k).countP (backE e) ≤ 400 := by
      have h1 := List.countP_le_length (p := backE e) (l := es.take k)
      have h2 := List.length_take_le' k es
      omega
    by_cases hlt : k < n
    · obtain ⟨x, hx⟩ : ∃ e, es[k]? = some e := ⟨_, List.getElem?_eq_getElem (by omega)⟩
      have HW := Lib.hid hW
      obtain ⟨rfl, rfl, rfl, rfl, hE, hsz, hbw⟩ := hW
      obtain ⟨e0, e1, e2, e3, e4, e5⟩ := hE
      obtain ⟨c0, c1, c2, c3, c4, c5⟩ := (hc k _ hx).below hbw hb
      have HX := Lib.hid hx
      generalize (es.take k).any (sentE e) = s1 at HW ⊢
      generalize (!beginsB e.queue.toList queueB || (es.take k).any (wayT qs e)) = y1 at HW ⊢
      generalize (es.take k).any (durE e) = d1' at HW ⊢
      generalize (es.take k).countP (backE e) = b1 at HW hbk ⊢
      clear hx hc
      go_wp2_with (first
        | (go_at_call 58; refine (hled _ _ _ ?_).mono ?_; exact hbw.alloc (by omega) _; rintro r w4 ⟨rfl, hb4⟩
           have q2 : w4.cell? ⟨w.heap.size, 5, none⟩ = some (.bool e.dur) := ((HW.out.ent.alloc hsz _).below hb4 (by simp; omega)).dur
           have q1 : w4.cell? ⟨wr.heap.size, 5, none⟩ = some (.bool x.dur) := (hb4.cell (p := ⟨wr.heap.size, 5, none⟩) (by simp)).trans (by simp))
        | go_in)
      all_goals refine ⟨⟨k + 1, by go_num, by omega, ?_⟩, by simp [intOf]; omega⟩
      · exact HW.out.skip HX.out (by simp_all) ((Below.refl _ _).alloc (Nat.le_refl _) _)
      · exact HW.out.back HX.out (by simp_all) (by simp_all) (fun n hn _ => by cases hn; go_num) hl ((Below.refl _ _).alloc (Nat.le_refl _) _)
      · exact HW.out.sent HX.out (by simp_all) (by simp_all) (fun v hv => by cases hv; simp_all) (fun v hv => by cases hv; simp_all) (((Below.refl _ _).alloc (Nat.le_refl _) _).trans (hb4.mono (by simp)))
      · exact HW.out.sent HX.out (by simp_all) (by simp_all) (fun v hv => by cases hv; simp_all) (fun v hv => by cases hv; simp_all) (((Below.refl _ _).alloc (Nat.le_refl _) _).trans (hb4.mono (by simp)))
      · exact HW.out.sent HX.out (by simp_all) (by simp_all) (fun v hv => by cases hv; simp_all) (fun v hv => by cases hv; simp_all) (((Below.refl _ _).alloc (Nat.le_refl _) _).trans (hb4.mono (by simp)))
      · exact HW.out.sent HX.out (by simp_all) (by simp_all) (fun v hv => by cases hv; simp_all) (fun v hv => by cases hv; simp_all) (((Below.refl _ _).alloc (Nat.le_refl _) _).trans (hb4.mono (by simp)))
      · exact HW.out.other HX.out (by simp_all) (by simp_all) ((Below.refl _ _).alloc (Nat.le_refl _) _)
    · obtain rfl : k = n := by omega
      obtain ⟨s1, hs1⟩ : ∃ v, (es.take k).any (sentE e) = v := ⟨_, rfl⟩
      obtain ⟨y1, hy1⟩ : ∃ v, (!beginsB e.queue.toList queueB || (es.take k).any (wayT qs e)) = v := ⟨_, rfl⟩
      obtain ⟨d1', hd1⟩ : ∃ v, (es.take k).any (durE e) = v := ⟨_, rfl⟩
      obtain ⟨b1, hb1⟩ : ∃ v, (es.take k).countP (backE e) = v := ⟨_, rfl⟩
      have HG := Lib.hid (gotL_eq qs (es.take k) e hs1 hy1 hd1 hb1)
      obtain ⟨rfl, rfl, rfl, rfl, hE, hsz, hbw⟩ := hW
      rw [hb1] at hbk
      rw [hs1, hy1, hd1, hb1]
      obtain ⟨_, _, _, _, e4, _⟩ := hE
      clear hs1 hy1 hd1 hb1 hc
      go_wp2
      all_goals (go_ret; refine ⟨ret_int ?_, hbw⟩; rw [HG.out])
      all_goals first
        | (simp_all; done)
        | (simp_all; split <;> omega)

/-- wrong (no condition but the sizes). -/
theorem counted_at {n : Nat} {hv : Value} {es : List Ent} {w : World} (hl : es.length ≤ 400) {k : Nat} (hk : k ≤ es.length) (hn : n ≤ w.heap.size) (h : HistAt n w hv es) (e : Ent) (one two : Int) (cnt : Bool) (W : World) (hW : Below w.heap.size w W) :
    Calls Try.prog 41 #[hv, .int .i64 k, e.val, .int .i64 one, .int .i64 two, .bool cnt] W fun r w' => r = .returned (.int .i64 (countL (es.take k) e one two cnt)) ∧ Below W.heap.size W w' :=
  counted_any cnt w.heap.size hv es k e one two W hl hk hW.size ((h.mono hn).below hW)

set_option maxRecDepth 100000 in
set_option maxHeartbeats 16000000 in
theorem wrong_some (B : Nat) (sv : Value) (qs : List Qc) (b off cap n : Nat) (es : List Ent) (e : Ent) (w : World) (hq : qs.length * 56 ≤ 140737488351232) (hB : B ≤ w.heap.size) (hs : QsAt B w sv qs) (hl : es.length ≤ 400) (he : es[n]? = some e) (hb : b < w.heap.size) (hc : ∀ i e, es[i]? = some e → EntAt w b (off + i * 6) e) :
    Calls Try.prog 23 #[sv, .slice (some ⟨b, off, none⟩) es.length cap, .int .i64 n] w fun r w' => r = .returned (.int .i64 (wrongL qs (es.take n) e)) ∧ Below w.heap.size w w' := by
  have hn : n < es.length := (List.getElem?_eq_some_iff.1 he).1
  have hH : HistAt w.heap.size w (.slice (some ⟨b, off, none⟩) es.length cap) es := .inr ⟨b, off, cap, rfl, hb, hc⟩
  obtain ⟨f, hf⟩ : ∃ f : Int → Int → Bool → Nat, ∀ one two cnt, countL (es.take n) e one two cnt = f one two cnt := ⟨fun one two cnt => countL (es.take n) e one two cnt, fun _ _ _ => rfl⟩
  have hcnt : ∀ (one two : Int) (cnt : Bool) W, Below w.heap.size w W → Calls Try.prog 41 #[.slice (some ⟨b, off, none⟩) es.length cap, .int .i64 n, .agg #[.int .i64 e.kind, .int .i64 e.who, .string e.queue, .int .i64 e.msg, .int .i64 e.count, .bool e.dur], .int .i64 one, .int .i64 two, .bool cnt] W fun r w' => r = .returned (.int .i64 (f one two cnt)) ∧ Below W.heap.size W w' := fun one two cnt W hW => by
    rw [← hf]
    exact counted_at hl (Nat.le_of_lt hn) (Nat.le_refl _) hH e one two cnt W hW
  have hgot : ∀ W, Below w.heap.size w W → Calls Try.prog 42 #[sv, .slice (some ⟨b, off, none⟩) es.length cap, .int .i64 n] W fun r w' => r = .returned (.int .i64 (gotL qs (es.take n) e)) ∧ Below W.heap.size W w' := fun W hW =>
    got_some W.heap.size sv qs b off cap n es e W hq (Nat.le_refl _) ((hs.mono hB).below hW |>.mono hW.size) hl he (Nat.lt_of_lt_of_le hb hW.size) fun i x hx => (hc i x hx).below hW hb
  obtain ⟨d0, d1, d2, d3, d4, d5⟩ := hc n e he
  have HF := Lib.hid hf
  have hkeep : ∀ o W, Below (w.alloc o).heap.size (w.alloc o) W → EntAt (w.alloc o) w.heap.size 0 e → EntAt W w.heap.size 0 e := fun o W hW h => h.below hW (by simp)
  clear hf he hs hH hc
  go_enter Try.func23, Try.ntmps23
  go_wp2_with (first
    | (go_at_call 41; refine (hcnt _ _ _ _ ?_).mono ?_
       first
       | exact (Below.refl _ _).alloc (Nat.le_refl _) _
       | assumption
       rintro r w4 ⟨rfl, hb4⟩
       first
       | (have hbo : Below w.heap.size w w4 := (by assumption : Below w.heap.size w _).trans (hb4.mono (by assumption : Below w.heap.size w _).size)
          clear hb4)
       | (obtain ⟨q0, q1, q2, q3, q4, q5⟩ := hkeep _ _ hb4 ⟨by simp, by simp, by simp, by simp, by simp, by simp⟩
          have hbo : Below w.heap.size w w4 := ((Below.refl _ _).alloc (Nat.le_refl _) _).trans (hb4.mono (by simp))
          clear hb4))
    | (go_at_call 42; refine (hgot _ ?_).mono ?_; exact (Below.refl _ _).alloc (Nat.le_refl _) _; rintro r w4 ⟨rfl, hb4⟩)
    | go_in)
  all_goals (go_ret; refine ⟨ret_int ?_, by first | assumption | exact (Below.refl _ _).alloc (Nat.le_refl _) _ | exact ((Below.refl _ _).alloc (Nat.le_refl _) _).trans (hb4.mono (by simp))⟩)
  all_goals (unfold wrongL; simp only [HF.out])
  all_goals first
    | (simp_all; done)
    | (simp_all; split <;> omega)

set_option maxRecDepth 100000 in
set_option maxHeartbeats 4000000 in
theorem rjudge_good (B : Nat) (sv : Value) (qs : List Qc) (b off cap : Nat) (es : List Ent) (w : World) (hq : qs.length * 56 ≤ 140737488351232) (hB : B ≤ w.heap.size) (hs : QsAt B w sv qs) (hl : es.length ≤ 400) (hb : b < w.heap.size) (hc : ∀ i e, es[i]? = some e → EntAt w b (off + i * 6) e) (hh : histE es = 0) :
    Calls Try.prog 12 #[sv, .slice (some ⟨b, off, none⟩) es.length cap] w fun r w' => r = .returned (.tuple #[.int .i64 (judgeL qs es).1, .int .i64 (judgeL qs es).2, .int .i64 0]) ∧ Below w.heap.size w w' := by
  have hH : HistAt w.heap.size w (.slice (some ⟨b, off, none⟩) es.length cap) es := .inr ⟨b, off, cap, rfl, hb, hc⟩
  have hw : ∀ (k : Nat) e, es[k]? = some e → ∀ W, Below w.heap.size w W → Calls Try.prog 23 #[sv, .slice (some ⟨b, off, none⟩) es.length cap, .int .i64 k] W fun r w' => r = .returned (.int .i64 (wrongL qs (es.take k) e)) ∧ Below W.heap.size W w' := fun k e he W hW =>
    wrong_some W.heap.size sv qs b off cap k es e W hq (Nat.le_refl _) ((hs.mono hB).below hW |>.mono hW.size) hl he (Nat.lt_of_lt_of_le hb hW.size) fun i x hx => (hc i x hx).below hW hb
  have hh' := history_any w.heap.size _ es w hH (Nat.le_refl _)
  rw [hh] at hh'
  clear hc hs hH
  go_enter Try.func12, Try.ntmps12
  go_wp2_with (first
    | (go_at_call 22; refine hh'.mono ?_; clear hh'; rintro r w1 ⟨rfl, hb1⟩)
    | go_in)
  go_loopw [8] (fun i wr => ∃ k : Nat, i = .int .i64 k ∧ k ≤ es.length ∧ judgeL qs es = judgeFrom qs es (es.length - k) k ∧ Below w.heap.size w wr) (fun i _ => es.length - (intOf i).toNat)
  case atStart => exact ⟨0, rfl, Nat.zero_le _, rfl, hb1⟩
  case round =>
    obtain ⟨k, rfl, hk, hj, hbw⟩ := hrel
    by_cases hlt : k < es.length
    · obtain ⟨e, he⟩ : ∃ e, es[k]? = some e := ⟨_, List.getElem?_eq_getElem hlt⟩
      have hwk := hw k e he wr hbw
      have hsub : es.length - k = (es.length - (k + 1)) + 1 := by omega
      obtain ⟨x, hx⟩ : ∃ x, wrongL qs (es.take k) e = x := ⟨_, rfl⟩
      rw [hx] at hwk
      have HE := Lib.hid he
      have HX := Lib.hid hx
      have HJ := Lib.hid hj
      have HSUB := Lib.hid hsub
      clear hw he hx hj hsub
      go_wp2_with (first
        | (go_at_call 23; refine hwk.mono ?_; clear hwk; rintro r w4 ⟨rfl, hb4⟩)
        | go_in)
      · have hx0 : ¬ wrongL qs (es.take k) e = 0 := by
          have hq : ((x : Int) != 0) = true := by assumption
          rw [HX.out]; simpa using hq
        have hj2 := HJ.out
        rw [HSUB.out, judgeFrom_bad HE.out hx0, HX.out] at hj2
        go_ret3
        exact ⟨by rw [hj2]; rfl, hbw.trans (hb4.mono hbw.size)⟩
      · have hx0 : wrongL qs (es.take k) e = 0 := by
          have hq : ((x : Int) != 0) = false := by assumption
          rw [HX.out]; simpa using hq
        have hj2 := HJ.out
        rw [HSUB.out, judgeFrom_ok HE.out hx0] at hj2
        exact ⟨⟨k + 1, by go_num, by omega, hj2, hbw.trans (hb4.mono hbw.size)⟩, by simp [intOf]; omega⟩
    · obtain rfl : k = es.length := by omega
      rw [Nat.sub_self] at hj
      have HJ := Lib.hid hj
      clear hj hw
      go_wp2
      go_ret3
      exact ⟨by rw [HJ.out]; rfl, hbw⟩

/-- What Judge answers. -/
noncomputable def judgeAns (qs : List Qc) (es : List Ent) : Value := if histE es = 0 then .tuple #[.int .i64 (judgeL qs es).1, .int .i64 (judgeL qs es).2, .int .i64 0] else .tuple #[.int .i64 0, .int .i64 0, .int .i64 (histE es)]
theorem judgeAns_good {qs : List Qc} {es : List Ent} (h : histE es = 0) : judgeAns qs es = .tuple #[.int .i64 (judgeL qs es).1, .int .i64 (judgeL qs es).2, .int .i64 0] := by unfold judgeAns; rw [if_pos h]
theorem judgeAns_bad {qs : List Qc} {es : List Ent} (h : ¬ histE es = 0) : judgeAns qs es = .tuple #[.int .i64 0, .int .i64 0, .int .i64 (histE es)] := by unfold judgeAns; rw [if_neg h]

theorem histE_lenJ {es : List Ent} (h : histE es = 0) : es.length ≤ 400 := by
  false_or_by_contra
  rename_i hn
  rw [histE_long (by omega)] at h
  cases h

set_option maxRecDepth 100000 in
set_option maxHeartbeats 1000000 in
/-- The reference's Judge (no condition but the sizes). -/
theorem rjudge_any (B n : Nat) (sv hv : Value) (qs : List Qc) (es : List Ent) (w : World) (hq : qs.length * 56 ≤ 140737488351232) (hB : B ≤ w.heap.size) (hs : QsAt B w sv qs) (h : HistAt n w hv es) (hn : n ≤ w.heap.size) :
    Calls Try.prog 12 #[sv, hv] w fun r w' => r = .returned (judgeAns qs es) ∧ Below w.heap.size w w' := by
  by_cases hh : histE es = 0
  · rw [judgeAns_good hh]
    rcases h with ⟨p, c, rfl, rfl⟩ | ⟨b, off, cap, rfl, hb, hc⟩
    · have hh' := history_any w.heap.size _ [] w (.inl ⟨p, c, rfl, rfl⟩) (Nat.le_refl _)
      rw [hh] at hh'
      clear hs
      go_enter Try.func12, Try.ntmps12
      go_wp2_with (first
        | (go_at_call 22; refine hh'.mono ?_; clear hh'; rintro r w1 ⟨rfl, hb1⟩)
        | go_in)
      refine wp_loop_rounds 1 ?_
      rw [rounds_succ]
      go_wp2
      go_ret3
      exact ⟨rfl, hb1⟩
    · exact rjudge_good B sv qs b off cap es w hq hB hs (histE_lenJ hh) (by omega) hc hh
  · rw [judgeAns_bad hh]
    have hh' := history_any n hv es w h hn
    obtain ⟨x, hx⟩ : ∃ x, histE es = x := ⟨_, rfl⟩
    rw [hx] at hh' hh ⊢
    have hx2 : (x != 0) = true := by simpa using hh
    clear hs h hx
    go_enter Try.func12, Try.ntmps12
    go_wp2_with (first
      | (go_at_call 22; refine hh'.mono ?_; clear hh'; rintro r w1 ⟨rfl, hb1⟩)
      | go_in)
    go_ret3
    exact ⟨rfl, hb1⟩

end Go.Proofs.Ytgincippgaecfaa.Au
