/-
  The law of beginnings: its walk. No condition but the sizes.
-/
import Derived.Test.YtgincippgaecfaaPB
import Derived.Test.YtgincippgaecfaaJE
import Derived.Test.YtgincippgaecfaaF2
import Derived.Test.YtgincippgaecfaaO2
import Derived.Test.YtgincippgaecfaaA1
namespace Go.Proofs.Ytgincippgaecfaa.Au
open Go Go.RowKit

theorem HistAt.take {n : Nat} {w : World} {a : Option Addr} {cap c : Nat} {es : List Ent} (h : HistAt n w (.slice a es.length cap) es) (hc : c ≤ es.length) : HistAt n w (.slice a c cap) (es.take c) := by
  rcases h with ⟨p, c', e, rfl⟩ | ⟨b, off, cap', e, hb, hq⟩
  · obtain rfl : c = 0 := by simpa using hc
    exact .inl ⟨a, cap, rfl, rfl⟩
  · simp only [Value.slice.injEq] at e
    obtain ⟨rfl, _, rfl⟩ := e
    refine .inr ⟨b, off, cap, by rw [List.length_take, Nat.min_eq_left hc], hb, fun i e he => ?_⟩
    rw [List.getElem?_take] at he
    split at he
    · exact hq i e he
    · cases he
theorem Ints.at_ {b : Nat} {W : World} {p : Option Addr} {c : Nat} {l : List Int} (h : Ints b W (.slice p l.length c) l) {j : Nat} {x : Int} (hx : l[j]? = some x) : ∃ g, p = some ⟨g, 0, none⟩ ∧ W.cell? ⟨g, j, none⟩ = some (.int .i64 x) := by
  rcases h.cases with ⟨_, rfl⟩ | ⟨g, cap, e, _, _, _, _, k, _⟩
  · simp at hx
  · simp only [Value.slice.injEq] at e
    exact ⟨g, e.1, k j x hx⟩

set_option maxRecDepth 100000 in
set_option maxHeartbeats 8000000 in
theorem begins_bad (sq : Value) (a : Option Addr) (cap : Nat) (qs : List Qc) (es : List Ent) (q : ByteArray) (cut : Int) (W : World) (hQ : QsAt W.heap.size W sq qs) (h : HistAt W.heap.size W (.slice a es.length cap) es) (hq : qs.length * 56 ≤ 140737488351232)
    (hw : ∀ e ∈ es, e.fineQ) (hz : ∀ c ∈ qs, c.fine) (hh : ¬ histE es = 0) :
    Calls Try.prog 6 #[sq, .slice a es.length cap, .string q, .int .i64 cut] W fun e W' => e = .returned (.bool true) ∧ Below W.heap.size W W' := by
  have hJ := fun (W1 : World) (hb : Below W.heap.size W W1) => pjudge_any W.heap.size _ _ qs es W1 hq (hQ.below hb) (h.below hb) hb.size hw hz
  have hL := fun (W1 : World) (hb : Below W.heap.size W W1) => left_any W.heap.size _ es q W1 (h.below hb) hb.size fun e he => (hw e he).1
  have hO := fun (W1 : World) (hb : Below W.heap.size W W1) => order_any W.heap.size _ es 1 q W1 (h.below hb) hb.size fun e he => (hw e he).1
  rw [judgeAns_bad hh] at hJ
  have hoe : orderE es 1 = histE es := by unfold orderE; rw [if_neg hh]
  rw [hoe] at hO
  unfold LeftAns at hL
  simp only [if_neg hh] at hL
  obtain ⟨E, hE⟩ : ∃ E, histE es = E := ⟨_, rfl⟩
  rw [hE] at hJ hO
  simp only [hE] at hL
  rw [hE] at hh
  have hE2 : (E != 0) = true := by simpa using hh
  clear hQ h hw hz hq hoe hE hh
  go_enter Try.func6, Try.ntmps6
  go_wp2_with (first
    | (go_at_call 8; refine Aw.awake.mono ?_; rintro e w1 ⟨rfl, hb1⟩; have hj := hJ w1 hb1; clear hJ)
    | (go_at_call 10; refine hj.mono ?_; clear hj; rintro e w2 ⟨rfl, hb2⟩; have hB2 := hb1.trans (hb2.mono hb1.size); have hl := hL w2 hB2; clear hL)
    | (go_at_call 13; refine hl.mono ?_; clear hl; rintro e w3 ⟨vm, vy, mu, my, rfl, i1, i2, _, hb3, _, rfl, rfl⟩
       obtain ⟨p1, c1, rfl⟩ := Ints.shape i1
       obtain ⟨p2, c2, rfl⟩ := Ints.shape i2
       have hB3 := hB2.trans (hb3.mono hB2.size); have ho := hO w3 hB3; clear hO i1 i2)
    | (go_at_call 17; refine ho.mono ?_; clear ho; rintro e w4 ⟨rfl, hb4⟩; have hB4 := Lib.hid (hB3.trans (hb4.mono hB3.size)))
    | go_in)
  go_ret
  exact ⟨rfl, hB4.out⟩

set_option maxRecDepth 100000 in
set_option maxHeartbeats 16000000 in
theorem begins_a_in (sq : Value) (a : Option Addr) (cap : Nat) (qs : List Qc) (es : List Ent) (q : ByteArray) (c : Nat) (W : World) (hQ : QsAt W.heap.size W sq qs) (h : HistAt W.heap.size W (.slice a es.length cap) es) (hcap : es.length ≤ cap) (hq : qs.length * 56 ≤ 140737488351232)
    (hw : ∀ e ∈ es, e.fineQ) (hz : ∀ c ∈ qs, c.fine) (hh : histE es = 0)  (hc : c ≤ es.length) (h1 : judgeL qs es = (-1, 0)) (h2 : judgeL qs (es.take c) = (-1, 0)) :
    Calls Try.prog 6 #[sq, .slice a es.length cap, .string q, .int .i64 (c : Int)] W fun e W' => e = .returned (.bool true) ∧ Below W.heap.size W W' := by
  have hJ := fun (W1 : World) (hb : Below W.heap.size W W1) => pjudge_any W.heap.size _ _ qs es W1 hq (hQ.below hb) (h.below hb) hb.size hw hz
  have hJ2 := fun (W1 : World) (hb : Below W.heap.size W W1) => pjudge_any W.heap.size _ _ qs (es.take c) W1 hq (hQ.below hb) ((h.take hc).below hb) hb.size (fun e he => hw e (List.mem_of_mem_take he)) hz
  have hL := fun (W1 : World) (hb : Below W.heap.size W W1) => left_any W.heap.size _ es q W1 (h.below hb) hb.size fun e he => (hw e he).1
  have hO := fun (W1 : World) (hb : Below W.heap.size W W1) => order_any W.heap.size _ es 1 q W1 (h.below hb) hb.size fun e he => (hw e he).1
  rw [judgeAns_good hh, h1] at hJ
  rw [judgeAns_good (histE_take hh c), h2] at hJ2
  have hoe : orderE es 1 = 0 := by unfold orderE; rw [if_pos hh]; rfl
  rw [hoe] at hO
  unfold LeftAns at hL
  simp only [hh, if_true] at hL
  have hlen := histE_lenJ hh
  have hl4 : (es.length : Int) ≤ 400 := by omega
  have hcc : (c : Int) ≤ (es.length : Int) := by omega
  have hcp : (es.length : Int) ≤ (cap : Int) := by omega
  have hcz : ¬ (c : Int) < 0 := by omega
  have hcz2 : ¬ (es.length : Int) < (c : Int) := by omega
  clear hQ h hw hz hq hoe hh h1 h2
  go_enter Try.func6, Try.ntmps6
  go_wp2_with (first
    | (go_at_call 8; refine Aw.awake.mono ?_; rintro e w1 ⟨rfl, hb1⟩; have hj := hJ w1 hb1; clear hJ)
    | (go_at_call 10; refine hj.mono ?_; clear hj; rintro e w2 ⟨rfl, hb2⟩; have hB2 := hb1.trans (hb2.mono hb1.size); have hl := hL w2 hB2; clear hL)
    | (go_at_call 13; refine hl.mono ?_; clear hl; rintro e w3 ⟨vm, vy, mu, my, rfl, i1, i2, _, hb3, hmy, hasc, hmu⟩
       obtain ⟨p1, c1, rfl⟩ := Ints.shape i1
       obtain ⟨p2, c2, rfl⟩ := Ints.shape i2
       have I1 := Lib.hid i1; have I2 := Lib.hid i2; have HA := Lib.hid hasc; have HMU := Lib.hid hmu
       have hB3 := hB2.trans (hb3.mono hB2.size); have ho := hO w3 hB3; clear hO i1 i2 hasc hmu)
    | (go_at_call 17; refine ho.mono ?_; clear ho; rintro e w4 ⟨rfl, hb4⟩; have hB4 := hB3.trans (hb4.mono hB3.size); have hj2 := hJ2 w4 hB4; clear hJ2)
    | (go_at_call 10; refine hj2.mono ?_; clear hj2; rintro e w5 ⟨rfl, hb5⟩; have HB5 := Lib.hid (hB4.trans (hb5.mono hB4.size)); have HB35 := Lib.hid (hb4.trans (hb5.mono hb4.size)); clear hb1 hb2 hb3 hb4 hb5 hB2 hB3 hB4)
    | go_in)
  have hml : mu.length ≤ my.length := by rw [HMU.out]; exact List.length_filter_le _ _
  have hmz : (my.length : Int) ≤ 400 := by omega
  have hmz2 : (mu.length : Int) ≤ 400 := by omega
  go_loopw [20, 21] (fun kv iv wr => ∃ i : Nat, iv = .int .i64 i ∧ i ≤ my.length ∧ kv = .int .i64 (cntTo (fun m => decide (0 < moreL q.toList es m)) my i) ∧ Below w5.heap.size w5 wr) (fun _ i _ => my.length - (intOf i).toNat)
  case atStart => exact ⟨0, rfl, Nat.zero_le _, by simp [cntTo], Below.refl _ _⟩
  case round =>
    obtain ⟨i, rfl, hi, rfl, hbw⟩ := hrel
    have hbw3 := HB35.out.trans (hbw.mono HB35.out.size)
    obtain ⟨k, hk⟩ : ∃ k, cntTo (fun m => decide (0 < moreL q.toList es m)) my i = k := ⟨_, rfl⟩
    have hkm : k ≤ mu.length := by rw [← hk, HMU.out]; exact cntTo_le _ _ _
    rw [hk]
    have HK := Lib.hid hk
    clear hk
    by_cases hlt : i < my.length
    · obtain ⟨y, hy⟩ : ∃ y, my[i]? = some y := ⟨_, List.getElem?_eq_getElem hlt⟩
      obtain ⟨g2, rfl, cy⟩ := (Ints.below hbw3 I2.out fun g hg => (Ints.lt I2.out g hg).2).at_ hy
      have HY := Lib.hid hy
      have hi1 : (i : Int) < (my.length : Int) := by omega
      have hstep : ∀ k', cntTo (fun m => decide (0 < moreL q.toList es m)) my (i + 1) = k' → ∀ n, (∃ i_1 : Nat, Value.int .i64 ((i : Int) + 1) = .int .i64 i_1 ∧ i_1 ≤ my.length ∧ Value.int .i64 k' = .int .i64 (cntTo (fun m => decide (0 < moreL q.toList es m)) my i_1) ∧ Below w5.heap.size w5 (wr.drewN n)) ∧ my.length - (intOf (.int .i64 ((i : Int) + 1))).toNat < my.length - (intOf (.int .i64 (i : Int))).toNat := fun k' hk' n =>
        ⟨⟨i + 1, by go_num, by omega, by rw [hk'], below_drewN hbw _⟩, by simp [intOf]; omega⟩
      have HST := Lib.hid hstep
      have hmu2 : mu = my.filter fun m => decide (0 < moreL q.toList es m) := HMU.out
      have HA2 := Lib.hid (HA.out.1)
      clear hstep hbw
      rcases Nat.eq_zero_or_pos i with hi0 | hi0
      · subst hi0
        cases hp : decide (0 < moreL q.toList es y) with
        | true =>
          obtain ⟨e1, e2, e3⟩ := cntTo_yes (p := fun m => decide (0 < moreL q.toList es m)) hy hp
          rw [HK.out, ← hmu2] at e2 e3
          rw [HK.out] at e1
          obtain ⟨g1, rfl, cm⟩ := (Ints.below hbw3 I1.out fun g hg => (Ints.lt I1.out g hg).2).at_ e3
          have hk1 : (k : Int) < (mu.length : Int) := by omega
          have HE1 := Lib.hid e1
          have HMU2 := Lib.hid hmu2
          clear hp e1 e2 e3 hy hmu2 hbw3
          go_wp2
          go_quiet (fail)
          go_wp2
          go_quiet (fail)
          go_wp2
          exact HST.out _ (by rw [HE1.out]) _
        | false =>
          obtain ⟨e1, e2⟩ := cntTo_no (p := fun m => decide (0 < moreL q.toList es m)) hy hp
          rw [HK.out] at e1 e2
          rw [← hmu2] at e2
          have HE1 := Lib.hid e1
          by_cases hkl : k < mu.length
          · obtain ⟨x, hx⟩ : ∃ x, mu[k]? = some x := ⟨_, List.getElem?_eq_getElem hkl⟩
            have hxy := e2 x hx
            obtain ⟨g1, rfl, cm⟩ := (Ints.below hbw3 I1.out fun g hg => (Ints.lt I1.out g hg).2).at_ hx
            have hk1 : (k : Int) < (mu.length : Int) := by omega
            have HMU2 := Lib.hid hmu2
            clear hp e1 e2 hx hy hmu2 hbw3 hkl
            go_wp2
            go_quiet (fail)
            go_wp2
            go_quiet (fail)
            go_wp2
            exact HST.out _ HE1.out _
          · obtain rfl : k = mu.length := by omega
            have HMU2 := Lib.hid hmu2
            clear hp e1 e2 hy hmu2 hbw3 hkl hkm
            go_wp2
            go_quiet (fail)
            go_wp2
            go_quiet (fail)
            go_wp2
            exact HST.out _ HE1.out _
      · obtain ⟨j, rfl⟩ : ∃ j, i = j + 1 := ⟨i - 1, by omega⟩
        obtain ⟨y0, hy0⟩ : ∃ y0, my[j]? = some y0 := ⟨_, List.getElem?_eq_getElem (by omega)⟩
        obtain ⟨g3, e3, cy0⟩ := (Ints.below hbw3 I2.out fun g hg => (Ints.lt I2.out g hg).2).at_ hy0
        simp only [Option.some.injEq, Addr.mk.injEq] at e3
        obtain ⟨rfl, _⟩ := e3
        have hyy := asc_at HA2.out hy0 hy
        have hge : ¬ y ≤ y0 := by omega
        have hj0 : (0 : Int) < (j : Int) + 1 := by omega
        have hj1 : (j : Int) < (my.length : Int) := by omega
        clear hy0 hyy hi0
        cases hp : decide (0 < moreL q.toList es y) with
        | true =>
          obtain ⟨e1, e2, e3⟩ := cntTo_yes (p := fun m => decide (0 < moreL q.toList es m)) hy hp
          rw [HK.out, ← hmu2] at e2 e3
          rw [HK.out] at e1
          obtain ⟨g1, rfl, cm⟩ := (Ints.below hbw3 I1.out fun g hg => (Ints.lt I1.out g hg).2).at_ e3
          have hk1 : (k : Int) < (mu.length : Int) := by omega
          have HE1 := Lib.hid e1
          have HMU2 := Lib.hid hmu2
          clear hp e1 e2 e3 hy hmu2 hbw3
          go_wp2
          go_quiet (fail)
          go_wp2
          go_quiet (fail)
          go_wp2
          exact HST.out _ (by rw [HE1.out]) _
        | false =>
          obtain ⟨e1, e2⟩ := cntTo_no (p := fun m => decide (0 < moreL q.toList es m)) hy hp
          rw [HK.out] at e1 e2
          rw [← hmu2] at e2
          have HE1 := Lib.hid e1
          by_cases hkl : k < mu.length
          · obtain ⟨x, hx⟩ : ∃ x, mu[k]? = some x := ⟨_, List.getElem?_eq_getElem hkl⟩
            have hxy := e2 x hx
            obtain ⟨g1, rfl, cm⟩ := (Ints.below hbw3 I1.out fun g hg => (Ints.lt I1.out g hg).2).at_ hx
            have hk1 : (k : Int) < (mu.length : Int) := by omega
            have HMU2 := Lib.hid hmu2
            clear hp e1 e2 hx hy hmu2 hbw3 hkl
            go_wp2
            go_quiet (fail)
            go_wp2
            go_quiet (fail)
            go_wp2
            exact HST.out _ HE1.out _
          · obtain rfl : k = mu.length := by omega
            have HMU2 := Lib.hid hmu2
            clear hp e1 e2 hy hmu2 hbw3 hkl hkm
            go_wp2
            go_quiet (fail)
            go_wp2
            go_quiet (fail)
            go_wp2
            exact HST.out _ HE1.out _
    · obtain rfl : i = my.length := by omega
      have hkl : k = mu.length := by rw [← HK.out, HMU.out, cntTo_end]; rfl
      subst hkl
      have HBW := Lib.hid (HB5.out.trans (hbw.mono HB5.out.size))
      clear hbw hbw3
      go_wp2
      go_ret
      exact ⟨rfl, HBW.out⟩

set_option maxRecDepth 100000 in
set_option maxHeartbeats 16000000 in
theorem begins_a_neg (sq : Value) (a : Option Addr) (cap : Nat) (qs : List Qc) (es : List Ent) (q : ByteArray) (c : Nat) (cut : Int) (W : World) (hQ : QsAt W.heap.size W sq qs) (h : HistAt W.heap.size W (.slice a es.length cap) es) (hcap : es.length ≤ cap) (hq : qs.length * 56 ≤ 140737488351232)
    (hw : ∀ e ∈ es, e.fineQ) (hz : ∀ c ∈ qs, c.fine) (hh : histE es = 0) (hneg : cut < 0) (hc2 : (es.length : Int) / 2 = (c : Int)) (hc : c ≤ es.length) (h1 : judgeL qs es = (-1, 0)) (h2 : judgeL qs (es.take c) = (-1, 0)) :
    Calls Try.prog 6 #[sq, .slice a es.length cap, .string q, .int .i64 cut] W fun e W' => e = .returned (.bool true) ∧ Below W.heap.size W W' := by
  have hJ := fun (W1 : World) (hb : Below W.heap.size W W1) => pjudge_any W.heap.size _ _ qs es W1 hq (hQ.below hb) (h.below hb) hb.size hw hz
  have hJ2 := fun (W1 : World) (hb : Below W.heap.size W W1) => pjudge_any W.heap.size _ _ qs (es.take c) W1 hq (hQ.below hb) ((h.take hc).below hb) hb.size (fun e he => hw e (List.mem_of_mem_take he)) hz
  have hL := fun (W1 : World) (hb : Below W.heap.size W W1) => left_any W.heap.size _ es q W1 (h.below hb) hb.size fun e he => (hw e he).1
  have hO := fun (W1 : World) (hb : Below W.heap.size W W1) => order_any W.heap.size _ es 1 q W1 (h.below hb) hb.size fun e he => (hw e he).1
  rw [judgeAns_good hh, h1] at hJ
  rw [judgeAns_good (histE_take hh c), h2] at hJ2
  have hoe : orderE es 1 = 0 := by unfold orderE; rw [if_pos hh]; rfl
  rw [hoe] at hO
  unfold LeftAns at hL
  simp only [hh, if_true] at hL
  have hlen := histE_lenJ hh
  have hl4 : (es.length : Int) ≤ 400 := by omega
  have hcc : (c : Int) ≤ (es.length : Int) := by omega
  have hcp : (es.length : Int) ≤ (cap : Int) := by omega
  skip
  clear hQ h hw hz hq hoe hh h1 h2
  go_enter Try.func6, Try.ntmps6
  go_wp2_with (first
    | (go_at_call 8; refine Aw.awake.mono ?_; rintro e w1 ⟨rfl, hb1⟩; have hj := hJ w1 hb1; clear hJ)
    | (go_at_call 10; refine hj.mono ?_; clear hj; rintro e w2 ⟨rfl, hb2⟩; have hB2 := hb1.trans (hb2.mono hb1.size); have hl := hL w2 hB2; clear hL)
    | (go_at_call 13; refine hl.mono ?_; clear hl; rintro e w3 ⟨vm, vy, mu, my, rfl, i1, i2, _, hb3, hmy, hasc, hmu⟩
       obtain ⟨p1, c1, rfl⟩ := Ints.shape i1
       obtain ⟨p2, c2, rfl⟩ := Ints.shape i2
       have I1 := Lib.hid i1; have I2 := Lib.hid i2; have HA := Lib.hid hasc; have HMU := Lib.hid hmu
       have hB3 := hB2.trans (hb3.mono hB2.size); have ho := hO w3 hB3; clear hO i1 i2 hasc hmu)
    | (go_at_call 17; refine ho.mono ?_; clear ho; rintro e w4 ⟨rfl, hb4⟩; have hB4 := hB3.trans (hb4.mono hB3.size); have hj2 := hJ2 w4 hB4; clear hJ2)
    | (go_at_call 10; refine hj2.mono ?_; clear hj2; rintro e w5 ⟨rfl, hb5⟩; have HB5 := Lib.hid (hB4.trans (hb5.mono hB4.size)); have HB35 := Lib.hid (hb4.trans (hb5.mono hb4.size)); clear hb1 hb2 hb3 hb4 hb5 hB2 hB3 hB4)
    | go_in)
  have hml : mu.length ≤ my.length := by rw [HMU.out]; exact List.length_filter_le _ _
  have hmz : (my.length : Int) ≤ 400 := by omega
  have hmz2 : (mu.length : Int) ≤ 400 := by omega
  go_loopw [20, 21] (fun kv iv wr => ∃ i : Nat, iv = .int .i64 i ∧ i ≤ my.length ∧ kv = .int .i64 (cntTo (fun m => decide (0 < moreL q.toList es m)) my i) ∧ Below w5.heap.size w5 wr) (fun _ i _ => my.length - (intOf i).toNat)
  case atStart => exact ⟨0, rfl, Nat.zero_le _, by simp [cntTo], Below.refl _ _⟩
  case round =>
    obtain ⟨i, rfl, hi, rfl, hbw⟩ := hrel
    have hbw3 := HB35.out.trans (hbw.mono HB35.out.size)
    obtain ⟨k, hk⟩ : ∃ k, cntTo (fun m => decide (0 < moreL q.toList es m)) my i = k := ⟨_, rfl⟩
    have hkm : k ≤ mu.length := by rw [← hk, HMU.out]; exact cntTo_le _ _ _
    rw [hk]
    have HK := Lib.hid hk
    clear hk
    by_cases hlt : i < my.length
    · obtain ⟨y, hy⟩ : ∃ y, my[i]? = some y := ⟨_, List.getElem?_eq_getElem hlt⟩
      obtain ⟨g2, rfl, cy⟩ := (Ints.below hbw3 I2.out fun g hg => (Ints.lt I2.out g hg).2).at_ hy
      have HY := Lib.hid hy
      have hi1 : (i : Int) < (my.length : Int) := by omega
      have hstep : ∀ k', cntTo (fun m => decide (0 < moreL q.toList es m)) my (i + 1) = k' → ∀ n, (∃ i_1 : Nat, Value.int .i64 ((i : Int) + 1) = .int .i64 i_1 ∧ i_1 ≤ my.length ∧ Value.int .i64 k' = .int .i64 (cntTo (fun m => decide (0 < moreL q.toList es m)) my i_1) ∧ Below w5.heap.size w5 (wr.drewN n)) ∧ my.length - (intOf (.int .i64 ((i : Int) + 1))).toNat < my.length - (intOf (.int .i64 (i : Int))).toNat := fun k' hk' n =>
        ⟨⟨i + 1, by go_num, by omega, by rw [hk'], below_drewN hbw _⟩, by simp [intOf]; omega⟩
      have HST := Lib.hid hstep
      have hmu2 : mu = my.filter fun m => decide (0 < moreL q.toList es m) := HMU.out
      have HA2 := Lib.hid (HA.out.1)
      clear hstep hbw
      rcases Nat.eq_zero_or_pos i with hi0 | hi0
      · subst hi0
        cases hp : decide (0 < moreL q.toList es y) with
        | true =>
          obtain ⟨e1, e2, e3⟩ := cntTo_yes (p := fun m => decide (0 < moreL q.toList es m)) hy hp
          rw [HK.out, ← hmu2] at e2 e3
          rw [HK.out] at e1
          obtain ⟨g1, rfl, cm⟩ := (Ints.below hbw3 I1.out fun g hg => (Ints.lt I1.out g hg).2).at_ e3
          have hk1 : (k : Int) < (mu.length : Int) := by omega
          have HE1 := Lib.hid e1
          have HMU2 := Lib.hid hmu2
          clear hp e1 e2 e3 hy hmu2 hbw3
          go_wp2
          go_quiet (fail)
          go_wp2
          go_quiet (fail)
          go_wp2
          exact HST.out _ (by rw [HE1.out]) _
        | false =>
          obtain ⟨e1, e2⟩ := cntTo_no (p := fun m => decide (0 < moreL q.toList es m)) hy hp
          rw [HK.out] at e1 e2
          rw [← hmu2] at e2
          have HE1 := Lib.hid e1
          by_cases hkl : k < mu.length
          · obtain ⟨x, hx⟩ : ∃ x, mu[k]? = some x := ⟨_, List.getElem?_eq_getElem hkl⟩
            have hxy := e2 x hx
            obtain ⟨g1, rfl, cm⟩ := (Ints.below hbw3 I1.out fun g hg => (Ints.lt I1.out g hg).2).at_ hx
            have hk1 : (k : Int) < (mu.length : Int) := by omega
            have HMU2 := Lib.hid hmu2
            clear hp e1 e2 hx hy hmu2 hbw3 hkl
            go_wp2
            go_quiet (fail)
            go_wp2
            go_quiet (fail)
            go_wp2
            exact HST.out _ HE1.out _
          · obtain rfl : k = mu.length := by omega
            have HMU2 := Lib.hid hmu2
            clear hp e1 e2 hy hmu2 hbw3 hkl hkm
            go_wp2
            go_quiet (fail)
            go_wp2
            go_quiet (fail)
            go_wp2
            exact HST.out _ HE1.out _
      · obtain ⟨j, rfl⟩ : ∃ j, i = j + 1 := ⟨i - 1, by omega⟩
        obtain ⟨y0, hy0⟩ : ∃ y0, my[j]? = some y0 := ⟨_, List.getElem?_eq_getElem (by omega)⟩
        obtain ⟨g3, e3, cy0⟩ := (Ints.below hbw3 I2.out fun g hg => (Ints.lt I2.out g hg).2).at_ hy0
        simp only [Option.some.injEq, Addr.mk.injEq] at e3
        obtain ⟨rfl, _⟩ := e3
        have hyy := asc_at HA2.out hy0 hy
        have hge : ¬ y ≤ y0 := by omega
        have hj0 : (0 : Int) < (j : Int) + 1 := by omega
        have hj1 : (j : Int) < (my.length : Int) := by omega
        clear hy0 hyy hi0
        cases hp : decide (0 < moreL q.toList es y) with
        | true =>
          obtain ⟨e1, e2, e3⟩ := cntTo_yes (p := fun m => decide (0 < moreL q.toList es m)) hy hp
          rw [HK.out, ← hmu2] at e2 e3
          rw [HK.out] at e1
          obtain ⟨g1, rfl, cm⟩ := (Ints.below hbw3 I1.out fun g hg => (Ints.lt I1.out g hg).2).at_ e3
          have hk1 : (k : Int) < (mu.length : Int) := by omega
          have HE1 := Lib.hid e1
          have HMU2 := Lib.hid hmu2
          clear hp e1 e2 e3 hy hmu2 hbw3
          go_wp2
          go_quiet (fail)
          go_wp2
          go_quiet (fail)
          go_wp2
          exact HST.out _ (by rw [HE1.out]) _
        | false =>
          obtain ⟨e1, e2⟩ := cntTo_no (p := fun m => decide (0 < moreL q.toList es m)) hy hp
          rw [HK.out] at e1 e2
          rw [← hmu2] at e2
          have HE1 := Lib.hid e1
          by_cases hkl : k < mu.length
          · obtain ⟨x, hx⟩ : ∃ x, mu[k]? = some x := ⟨_, List.getElem?_eq_getElem hkl⟩
            have hxy := e2 x hx
            obtain ⟨g1, rfl, cm⟩ := (Ints.below hbw3 I1.out fun g hg => (Ints.lt I1.out g hg).2).at_ hx
            have hk1 : (k : Int) < (mu.length : Int) := by omega
            have HMU2 := Lib.hid hmu2
            clear hp e1 e2 hx hy hmu2 hbw3 hkl
            go_wp2
            go_quiet (fail)
            go_wp2
            go_quiet (fail)
            go_wp2
            exact HST.out _ HE1.out _
          · obtain rfl : k = mu.length := by omega
            have HMU2 := Lib.hid hmu2
            clear hp e1 e2 hy hmu2 hbw3 hkl hkm
            go_wp2
            go_quiet (fail)
            go_wp2
            go_quiet (fail)
            go_wp2
            exact HST.out _ HE1.out _
    · obtain rfl : i = my.length := by omega
      have hkl : k = mu.length := by rw [← HK.out, HMU.out, cntTo_end]; rfl
      subst hkl
      have HBW := Lib.hid (HB5.out.trans (hbw.mono HB5.out.size))
      clear hbw hbw3
      go_wp2
      go_ret
      exact ⟨rfl, HBW.out⟩

set_option maxRecDepth 100000 in
set_option maxHeartbeats 16000000 in
theorem begins_a_abv (sq : Value) (a : Option Addr) (cap : Nat) (qs : List Qc) (es : List Ent) (q : ByteArray) (c : Nat) (cut : Int) (W : World) (hQ : QsAt W.heap.size W sq qs) (h : HistAt W.heap.size W (.slice a es.length cap) es) (hcap : es.length ≤ cap) (hq : qs.length * 56 ≤ 140737488351232)
    (hw : ∀ e ∈ es, e.fineQ) (hz : ∀ c ∈ qs, c.fine) (hh : histE es = 0) (hnn : ¬ cut < 0) (hab : (es.length : Int) < cut) (hc2 : (es.length : Int) / 2 = (c : Int)) (hc : c ≤ es.length) (h1 : judgeL qs es = (-1, 0)) (h2 : judgeL qs (es.take c) = (-1, 0)) :
    Calls Try.prog 6 #[sq, .slice a es.length cap, .string q, .int .i64 cut] W fun e W' => e = .returned (.bool true) ∧ Below W.heap.size W W' := by
  have hJ := fun (W1 : World) (hb : Below W.heap.size W W1) => pjudge_any W.heap.size _ _ qs es W1 hq (hQ.below hb) (h.below hb) hb.size hw hz
  have hJ2 := fun (W1 : World) (hb : Below W.heap.size W W1) => pjudge_any W.heap.size _ _ qs (es.take c) W1 hq (hQ.below hb) ((h.take hc).below hb) hb.size (fun e he => hw e (List.mem_of_mem_take he)) hz
  have hL := fun (W1 : World) (hb : Below W.heap.size W W1) => left_any W.heap.size _ es q W1 (h.below hb) hb.size fun e he => (hw e he).1
  have hO := fun (W1 : World) (hb : Below W.heap.size W W1) => order_any W.heap.size _ es 1 q W1 (h.below hb) hb.size fun e he => (hw e he).1
  rw [judgeAns_good hh, h1] at hJ
  rw [judgeAns_good (histE_take hh c), h2] at hJ2
  have hoe : orderE es 1 = 0 := by unfold orderE; rw [if_pos hh]; rfl
  rw [hoe] at hO
  unfold LeftAns at hL
  simp only [hh, if_true] at hL
  have hlen := histE_lenJ hh
  have hl4 : (es.length : Int) ≤ 400 := by omega
  have hcc : (c : Int) ≤ (es.length : Int) := by omega
  have hcp : (es.length : Int) ≤ (cap : Int) := by omega
  skip
  clear hQ h hw hz hq hoe hh h1 h2
  go_enter Try.func6, Try.ntmps6
  go_wp2_with (first
    | (go_at_call 8; refine Aw.awake.mono ?_; rintro e w1 ⟨rfl, hb1⟩; have hj := hJ w1 hb1; clear hJ)
    | (go_at_call 10; refine hj.mono ?_; clear hj; rintro e w2 ⟨rfl, hb2⟩; have hB2 := hb1.trans (hb2.mono hb1.size); have hl := hL w2 hB2; clear hL)
    | (go_at_call 13; refine hl.mono ?_; clear hl; rintro e w3 ⟨vm, vy, mu, my, rfl, i1, i2, _, hb3, hmy, hasc, hmu⟩
       obtain ⟨p1, c1, rfl⟩ := Ints.shape i1
       obtain ⟨p2, c2, rfl⟩ := Ints.shape i2
       have I1 := Lib.hid i1; have I2 := Lib.hid i2; have HA := Lib.hid hasc; have HMU := Lib.hid hmu
       have hB3 := hB2.trans (hb3.mono hB2.size); have ho := hO w3 hB3; clear hO i1 i2 hasc hmu)
    | (go_at_call 17; refine ho.mono ?_; clear ho; rintro e w4 ⟨rfl, hb4⟩; have hB4 := hB3.trans (hb4.mono hB3.size); have hj2 := hJ2 w4 hB4; clear hJ2)
    | (go_at_call 10; refine hj2.mono ?_; clear hj2; rintro e w5 ⟨rfl, hb5⟩; have HB5 := Lib.hid (hB4.trans (hb5.mono hB4.size)); have HB35 := Lib.hid (hb4.trans (hb5.mono hb4.size)); clear hb1 hb2 hb3 hb4 hb5 hB2 hB3 hB4)
    | go_in)
  have hml : mu.length ≤ my.length := by rw [HMU.out]; exact List.length_filter_le _ _
  have hmz : (my.length : Int) ≤ 400 := by omega
  have hmz2 : (mu.length : Int) ≤ 400 := by omega
  go_loopw [20, 21] (fun kv iv wr => ∃ i : Nat, iv = .int .i64 i ∧ i ≤ my.length ∧ kv = .int .i64 (cntTo (fun m => decide (0 < moreL q.toList es m)) my i) ∧ Below w5.heap.size w5 wr) (fun _ i _ => my.length - (intOf i).toNat)
  case atStart => exact ⟨0, rfl, Nat.zero_le _, by simp [cntTo], Below.refl _ _⟩
  case round =>
    obtain ⟨i, rfl, hi, rfl, hbw⟩ := hrel
    have hbw3 := HB35.out.trans (hbw.mono HB35.out.size)
    obtain ⟨k, hk⟩ : ∃ k, cntTo (fun m => decide (0 < moreL q.toList es m)) my i = k := ⟨_, rfl⟩
    have hkm : k ≤ mu.length := by rw [← hk, HMU.out]; exact cntTo_le _ _ _
    rw [hk]
    have HK := Lib.hid hk
    clear hk
    by_cases hlt : i < my.length
    · obtain ⟨y, hy⟩ : ∃ y, my[i]? = some y := ⟨_, List.getElem?_eq_getElem hlt⟩
      obtain ⟨g2, rfl, cy⟩ := (Ints.below hbw3 I2.out fun g hg => (Ints.lt I2.out g hg).2).at_ hy
      have HY := Lib.hid hy
      have hi1 : (i : Int) < (my.length : Int) := by omega
      have hstep : ∀ k', cntTo (fun m => decide (0 < moreL q.toList es m)) my (i + 1) = k' → ∀ n, (∃ i_1 : Nat, Value.int .i64 ((i : Int) + 1) = .int .i64 i_1 ∧ i_1 ≤ my.length ∧ Value.int .i64 k' = .int .i64 (cntTo (fun m => decide (0 < moreL q.toList es m)) my i_1) ∧ Below w5.heap.size w5 (wr.drewN n)) ∧ my.length - (intOf (.int .i64 ((i : Int) + 1))).toNat < my.length - (intOf (.int .i64 (i : Int))).toNat := fun k' hk' n =>
        ⟨⟨i + 1, by go_num, by omega, by rw [hk'], below_drewN hbw _⟩, by simp [intOf]; omega⟩
      have HST := Lib.hid hstep
      have hmu2 : mu = my.filter fun m => decide (0 < moreL q.toList es m) := HMU.out
      have HA2 := Lib.hid (HA.out.1)
      clear hstep hbw
      rcases Nat.eq_zero_or_pos i with hi0 | hi0
      · subst hi0
        cases hp : decide (0 < moreL q.toList es y) with
        | true =>
          obtain ⟨e1, e2, e3⟩ := cntTo_yes (p := fun m => decide (0 < moreL q.toList es m)) hy hp
          rw [HK.out, ← hmu2] at e2 e3
          rw [HK.out] at e1
          obtain ⟨g1, rfl, cm⟩ := (Ints.below hbw3 I1.out fun g hg => (Ints.lt I1.out g hg).2).at_ e3
          have hk1 : (k : Int) < (mu.length : Int) := by omega
          have HE1 := Lib.hid e1
          have HMU2 := Lib.hid hmu2
          clear hp e1 e2 e3 hy hmu2 hbw3
          go_wp2
          go_quiet (fail)
          go_wp2
          go_quiet (fail)
          go_wp2
          exact HST.out _ (by rw [HE1.out]) _
        | false =>
          obtain ⟨e1, e2⟩ := cntTo_no (p := fun m => decide (0 < moreL q.toList es m)) hy hp
          rw [HK.out] at e1 e2
          rw [← hmu2] at e2
          have HE1 := Lib.hid e1
          by_cases hkl : k < mu.length
          · obtain ⟨x, hx⟩ : ∃ x, mu[k]? = some x := ⟨_, List.getElem?_eq_getElem hkl⟩
            have hxy := e2 x hx
            obtain ⟨g1, rfl, cm⟩ := (Ints.below hbw3 I1.out fun g hg => (Ints.lt I1.out g hg).2).at_ hx
            have hk1 : (k : Int) < (mu.length : Int) := by omega
            have HMU2 := Lib.hid hmu2
            clear hp e1 e2 hx hy hmu2 hbw3 hkl
            go_wp2
            go_quiet (fail)
            go_wp2
            go_quiet (fail)
            go_wp2
            exact HST.out _ HE1.out _
          · obtain rfl : k = mu.length := by omega
            have HMU2 := Lib.hid hmu2
            clear hp e1 e2 hy hmu2 hbw3 hkl hkm
            go_wp2
            go_quiet (fail)
            go_wp2
            go_quiet (fail)
            go_wp2
            exact HST.out _ HE1.out _
      · obtain ⟨j, rfl⟩ : ∃ j, i = j + 1 := ⟨i - 1, by omega⟩
        obtain ⟨y0, hy0⟩ : ∃ y0, my[j]? = some y0 := ⟨_, List.getElem?_eq_getElem (by omega)⟩
        obtain ⟨g3, e3, cy0⟩ := (Ints.below hbw3 I2.out fun g hg => (Ints.lt I2.out g hg).2).at_ hy0
        simp only [Option.some.injEq, Addr.mk.injEq] at e3
        obtain ⟨rfl, _⟩ := e3
        have hyy := asc_at HA2.out hy0 hy
        have hge : ¬ y ≤ y0 := by omega
        have hj0 : (0 : Int) < (j : Int) + 1 := by omega
        have hj1 : (j : Int) < (my.length : Int) := by omega
        clear hy0 hyy hi0
        cases hp : decide (0 < moreL q.toList es y) with
        | true =>
          obtain ⟨e1, e2, e3⟩ := cntTo_yes (p := fun m => decide (0 < moreL q.toList es m)) hy hp
          rw [HK.out, ← hmu2] at e2 e3
          rw [HK.out] at e1
          obtain ⟨g1, rfl, cm⟩ := (Ints.below hbw3 I1.out fun g hg => (Ints.lt I1.out g hg).2).at_ e3
          have hk1 : (k : Int) < (mu.length : Int) := by omega
          have HE1 := Lib.hid e1
          have HMU2 := Lib.hid hmu2
          clear hp e1 e2 e3 hy hmu2 hbw3
          go_wp2
          go_quiet (fail)
          go_wp2
          go_quiet (fail)
          go_wp2
          exact HST.out _ (by rw [HE1.out]) _
        | false =>
          obtain ⟨e1, e2⟩ := cntTo_no (p := fun m => decide (0 < moreL q.toList es m)) hy hp
          rw [HK.out] at e1 e2
          rw [← hmu2] at e2
          have HE1 := Lib.hid e1
          by_cases hkl : k < mu.length
          · obtain ⟨x, hx⟩ : ∃ x, mu[k]? = some x := ⟨_, List.getElem?_eq_getElem hkl⟩
            have hxy := e2 x hx
            obtain ⟨g1, rfl, cm⟩ := (Ints.below hbw3 I1.out fun g hg => (Ints.lt I1.out g hg).2).at_ hx
            have hk1 : (k : Int) < (mu.length : Int) := by omega
            have HMU2 := Lib.hid hmu2
            clear hp e1 e2 hx hy hmu2 hbw3 hkl
            go_wp2
            go_quiet (fail)
            go_wp2
            go_quiet (fail)
            go_wp2
            exact HST.out _ HE1.out _
          · obtain rfl : k = mu.length := by omega
            have HMU2 := Lib.hid hmu2
            clear hp e1 e2 hy hmu2 hbw3 hkl hkm
            go_wp2
            go_quiet (fail)
            go_wp2
            go_quiet (fail)
            go_wp2
            exact HST.out _ HE1.out _
    · obtain rfl : i = my.length := by omega
      have hkl : k = mu.length := by rw [← HK.out, HMU.out, cntTo_end]; rfl
      subst hkl
      have HBW := Lib.hid (HB5.out.trans (hbw.mono HB5.out.size))
      clear hbw hbw3
      go_wp2
      go_ret
      exact ⟨rfl, HBW.out⟩

end Go.Proofs.Ytgincippgaecfaa.Au
