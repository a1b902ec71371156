/-
  The reference's rising and crashes: their walks. No condition but the lengths.
-/
import Derived.Test.YtgincippgaecfaaPL
import Derived.Test.YtgincippgaecfaaL2
import Derived.RangeFuncBox
namespace Go.Proofs.Ytgincippgaecfaa.Au
open Go Go.RowKit

theorem info3' : (Try.prog.info? 3).map (fun i => (i.zero, i.size, i.bytes)) = some (some (.int .i64 0), 1, 8) := by kernel_rfl

/-- The slice value owns the numbers l, in a row from block base on. -/
def Ints (base : Nat) (W : World) (v : Value) (l : List Int) : Prop := W.ownsRow base 3 1 v l.length (l.map (Value.int .i64))

theorem Ints.nil (base : Nat) (W : World) : Ints base W (.slice none 0 0) [] := World.ownsRow_nil _ _ _ _
theorem Ints.cases {base : Nat} {W : World} {v : Value} {l : List Int} (h : Ints base W v l) : (v = .slice none 0 0 ∧ l = []) ∨ ∃ g cap, v = .slice (some ⟨g, 0, none⟩) l.length cap ∧ base ≤ g ∧ g < W.heap.size ∧ l.length ≤ cap ∧ cap ≤ maxLen ∧ (∀ (j : Nat) (x : Int), l[j]? = some x → W.cell? ⟨g, j, none⟩ = some (.int .i64 x)) ∧ (∀ j, W.frozen? ⟨g, j, none⟩ = false) := by
  rcases h.2 with ⟨h0, h1⟩ | ⟨g, cap, cur, rfl, hb, hh, h1, h2, h3, h4⟩
  · exact .inl ⟨h0, List.length_eq_zero_iff.1 h1⟩
  · refine .inr ⟨g, cap, rfl, hb, (Array.getElem?_eq_some_iff.1 hh).1, h1, h2, fun j x hx => ?_, fun j => by simp [World.frozen?, hh]⟩
    have hj : j < l.length := (List.getElem?_eq_some_iff.1 hx).1
    rw [World.ownsRow.cellAt h j (by omega)]
    simp [hx]
theorem Ints.below {base n : Nat} {A B : World} (h : Below n A B) {v : Value} {l : List Int} (hi : Ints base A v l) (hv : ∀ g, v.ownBlock = some g → g < n) : Ints base B v l := by
  refine ⟨hi.1, ?_⟩
  rcases hi.2 with h0 | ⟨g, cap, cur, rfl, hb, hh, r⟩
  · exact .inl h0
  · exact .inr ⟨g, cap, cur, rfl, hb, (h.block g (hv g rfl)).trans hh, r⟩
theorem Ints.lt {base : Nat} {W : World} {v : Value} {l : List Int} (h : Ints base W v l) : ∀ g, v.ownBlock = some g → base ≤ g ∧ g < W.heap.size := fun g hg => World.ownsRow.lt h g hg
theorem Ints.base {base base' : Nat} {W : World} {v : Value} {l : List Int} (h : Ints base W v l) (hb : base' ≤ base) : Ints base' W v l := by
  refine ⟨h.1, ?_⟩
  rcases h.2 with h0 | ⟨g, cap, cur, rfl, h1, r⟩
  · exact .inl h0
  · exact .inr ⟨g, cap, cur, rfl, by omega, r⟩

/-- Behind an append of one number. -/
theorem Ints.appended {B : Nat} {W w3 : World} {v v' : Value} {l : List Int} {x : Int} {tmp : Obj} (h : Ints B W v l) (hB : B ≤ W.heap.size) (hown : w3.ownsRow B 3 1 v' (l.length + 1) (l.map (Value.int .i64) ++ [.int .i64 x])) (hgrow : (W.alloc tmp).grownBy w3 v.ownBlock) :
    Ints B w3 v' (l ++ [x]) ∧ Below B W w3 := by
  refine ⟨by unfold Ints; simpa using hown, ((Below.refl _ _).alloc hB _).grown hgrow (by simp; omega) fun k e => ?_⟩
  exact (h.lt k e).1

theorem riseTo_take {l : List Int} {k : Nat} {x n : Int} (h : l[k]? = some x) : riseTo (l.take (k + 1)) n = riseStep n (riseTo (l.take k) n) x := by
  rw [List.take_add_one, h]
  exact riseTo_snoc _ _ _

theorem rise_len (n : Int) (l : List Int) : (riseTo l n).1.length ≤ 2 * l.length := by
  refine snoc_ind (P := fun l => (riseTo l n).1.length ≤ 2 * l.length) (by simp [riseTo]) (fun l x ih => ?_) l
  rw [riseTo_snoc]
  unfold riseStep
  simp only [List.length_append, List.length_cons, List.length_nil]
  split <;> split <;> simp <;> omega

/-- Between two rounds of rising. -/
def RI (w : World) (l : List Int) (n : Int) (k : Nat) (p : Bool) (vo : Value) (o : List Int) (W : World) : Prop :=
  Ints w.heap.size W vo o ∧ o = (riseTo (l.take k) n).1 ∧ p = (riseTo (l.take k) n).2 ∧ Below w.heap.size w W

theorem rs1 {o : List Int} {x n : Int} (h : n ≤ x) (h' : (x != n) = true) : riseStep n (o, false) x = (o ++ [n] ++ [x], true) := by
  have : ¬ x = n := by simpa using h'
  simp [riseStep, h, this]
theorem rs2 {o : List Int} {x n : Int} (_h : n ≤ x) (h' : (x != n) = false) : riseStep n (o, false) x = (o ++ [n], true) := by
  have : x = n := by simpa using h'
  simp [riseStep, this]
theorem rs3 {o : List Int} {x n : Int} (h : x < n) : riseStep n (o, false) x = (o ++ [x], false) := by
  have h1 : ¬ n ≤ x := by omega
  have h2 : ¬ x = n := by omega
  simp [riseStep, h1, h2]
theorem rs4 {o : List Int} {x n : Int} (h' : (x != n) = true) : riseStep n (o, true) x = (o ++ [x], true) := by
  have : ¬ x = n := by simpa using h'
  simp [riseStep, this]
theorem rs5 {o : List Int} {x n : Int} (h' : (x != n) = false) : riseStep n (o, true) x = (o, true) := by
  have : x = n := by simpa using h'
  simp [riseStep, this]
theorem rise_yes {l o : List Int} {n : Int} (ho : o = (riseTo l n).1) (hp : true = (riseTo l n).2) : riseL l n = o := by
  simp [riseL, ← hp, ho]
theorem rise_no {l o : List Int} {n : Int} (ho : o = (riseTo l n).1) (hp : false = (riseTo l n).2) : riseL l n = o ++ [n] := by
  simp [riseL, ← hp, ho]

theorem RI.next {w W : World} {l : List Int} {n x : Int} {k : Nat} {p p' : Bool} {v' : Value} {o o' : List Int} (hi : Ints w.heap.size W v' o') (hb : Below w.heap.size w W) (HO : Hid (o = (riseTo (l.take k) n).1)) (HP : Hid (p = (riseTo (l.take k) n).2))
    (HX : Hid (l[k]? = some x)) (he : riseStep n (o, p) x = (o', p')) : RI w l n (k + 1) p' v' o' W := by
  have e : riseTo (l.take (k + 1)) n = (o', p') := by
    rw [riseTo_take HX.out, ← he, HO.out, HP.out]
  exact ⟨hi, by rw [e], by rw [e], hb⟩

set_option maxRecDepth 100000 in
set_option maxHeartbeats 2000000 in
theorem rising_some (g cap : Nat) (l : List Int) (n : Int) (w : World) (hlen : l.length ≤ 1000) (hg : g < w.heap.size) (hc : ∀ (j : Nat) (x : Int), l[j]? = some x → w.cell? ⟨g, j, none⟩ = some (.int .i64 x)) :
    Calls Try.prog 26 #[.slice (some ⟨g, 0, none⟩) l.length cap, .int .i64 n] w fun e w' => ∃ v', e = .returned v' ∧ Ints w.heap.size w' v' (riseL l n) ∧ Below w.heap.size w w' := by
  obtain ⟨i0, hi, hz0, hz1, hz2⟩ := info_parts info3'
  go_enter Try.func26, Try.ntmps26
  go_wp2
  go_loopw [5, 6, 7] (fun vo po i wr => ∃ (k : Nat) (p : Bool) (o : List Int), po = .bool p ∧ i = .int .i64 k ∧ k ≤ l.length ∧ RI w l n k p vo o wr) (fun _ _ i _ => l.length - (intOf i).toNat)
  case atStart => exact ⟨0, false, [], rfl, rfl, Nat.zero_le _, Ints.nil _ _, by simp [riseTo], by simp [riseTo], Below.refl _ _⟩
  case round =>
    obtain ⟨k, p, o, rfl, rfl, hk, hrow, ho, hp, hbw⟩ := hrel
    have hol : o.length ≤ 2000 := by
      have := rise_len n (l.take k)
      rw [← ho] at this
      simp at this
      omega
    by_cases hlt : k < l.length
    · obtain ⟨x, hx⟩ : ∃ x, l[k]? = some x := ⟨_, List.getElem?_eq_getElem hlt⟩
      have cx := (hbw.cell (p := ⟨g, k, none⟩) hg).trans (hc k x hx)
      have HX := Lib.hid hx
      have HO := Lib.hid ho
      have HP := Lib.hid hp
      have hws := hbw.size
      have hm1 : o.length + 1 ≤ maxLen := by unfold maxLen; omega
      have hm2 : o.length + 1 + 1 ≤ maxLen := by unfold maxLen; omega
      clear hx ho hp hc
      cases p with
      | false =>
        go_wp2_with (first
          | (at_builtin; refine wpList_append_own _ rfl _ _ 33 rfl w.heap.size 3 i0 (.int .i64 0) 1 8 Try.underlying33 hi hz0 hz1 hz2 rfl (by decide) _ _ _ rfl (World.ownsRow.alloc hrow _) ⟨wr.heap.size, 0, none⟩ 1 1 [.int .i64 _] rfl rfl (cell_one_new _ _ _) (by simp [Value.oneCell']) hm1 (by omega) (by simp; omega) ?_
             intro v' w3 hown' hgrow _; obtain ⟨hi3, hb3⟩ := Ints.appended hrow hws hown' hgrow; have cx3 := (hb3.cell (p := ⟨g, k, none⟩) hg).trans cx; have hB3 := hbw.trans hb3; have hws3 := hB3.size; clear hrow hown' hgrow hb3)
          | (at_builtin; refine wpList_append_own _ rfl _ _ 33 rfl w.heap.size 3 i0 (.int .i64 0) 1 8 Try.underlying33 hi hz0 hz1 hz2 rfl (by decide) _ _ _ rfl (World.ownsRow.alloc hi3 _) ⟨w3.heap.size, 0, none⟩ 1 1 [.int .i64 _] rfl rfl (cell_one_new _ _ _) (by simp [Value.oneCell']) (by simpa using hm2) (by simp; omega) (by simp; omega) ?_
             intro v4 w4 hown4 hgrow4 _; obtain ⟨hi4, hb4⟩ := Ints.appended hi3 hws3 hown4 hgrow4; have hB4 := hB3.trans hb4; clear hi3 hown4 hgrow4 hb4)
          | go_in)
        · exact ⟨⟨k + 1, true, _, rfl, by go_num, by omega, RI.next hi4 hB4 HO HP HX (rs1 (by assumption) (by assumption))⟩, by simp [intOf]; omega⟩
        · exact ⟨⟨k + 1, true, _, rfl, by go_num, by omega, RI.next hi3 hB3 HO HP HX (rs2 (by assumption) (by assumption))⟩, by simp [intOf]; omega⟩
        · exact ⟨⟨k + 1, false, _, rfl, by go_num, by omega, RI.next hi3 hB3 HO HP HX (rs3 (by assumption))⟩, by simp [intOf]; omega⟩
      | true =>
        go_wp2_with (first
          | (at_builtin; refine wpList_append_own _ rfl _ _ 33 rfl w.heap.size 3 i0 (.int .i64 0) 1 8 Try.underlying33 hi hz0 hz1 hz2 rfl (by decide) _ _ _ rfl (World.ownsRow.alloc hrow _) ⟨wr.heap.size, 0, none⟩ 1 1 [.int .i64 _] rfl rfl (cell_one_new _ _ _) (by simp [Value.oneCell']) hm1 (by omega) (by simp; omega) ?_
             intro v' w3 hown' hgrow _; obtain ⟨hi3, hb3⟩ := Ints.appended hrow hws hown' hgrow; have hB3 := hbw.trans hb3; clear hrow hown' hgrow hb3)
          | go_in)
        · exact ⟨⟨k + 1, true, _, rfl, by go_num, by omega, RI.next hi3 hB3 HO HP HX (rs4 (by assumption))⟩, by simp [intOf]; omega⟩
        · exact ⟨⟨k + 1, true, _, rfl, by go_num, by omega, RI.next hrow hbw HO HP HX (rs5 (by assumption))⟩, by simp [intOf]; omega⟩
    · obtain rfl : k = l.length := by omega
      rw [List.take_length] at ho hp
      have hws := hbw.size
      have hm1 : o.length + 1 ≤ maxLen := by unfold maxLen; omega
      have HO := Lib.hid ho
      have HP := Lib.hid hp
      clear ho hp hc
      cases p with
      | false =>
        go_wp2_with (first
          | (at_builtin; refine wpList_append_own _ rfl _ _ 33 rfl w.heap.size 3 i0 (.int .i64 0) 1 8 Try.underlying33 hi hz0 hz1 hz2 rfl (by decide) _ _ _ rfl (World.ownsRow.alloc hrow _) ⟨wr.heap.size, 0, none⟩ 1 1 [.int .i64 _] rfl rfl (cell_one_new _ _ _) (by simp [Value.oneCell']) hm1 (by omega) (by simp; omega) ?_
             intro v' w3 hown' hgrow _; obtain ⟨hi3, hb3⟩ := Ints.appended hrow hws hown' hgrow; have hB3 := hbw.trans hb3; clear hrow hown' hgrow hb3)
          | go_in)
        go_ret
        exact ⟨_, rfl, by rw [rise_no HO.out HP.out]; exact hi3, hB3⟩
      | true =>
        go_wp2
        go_ret
        exact ⟨_, rfl, by rw [rise_yes HO.out HP.out]; exact hrow, hbw⟩

set_option maxHeartbeats 2000000 in
theorem rising_nil (n : Int) (w : World) : Calls Try.prog 26 #[.slice none 0 0, .int .i64 n] w fun e w' => ∃ v', e = .returned v' ∧ Ints w.heap.size w' v' (riseL [] n) ∧ Below w.heap.size w w' := by
  obtain ⟨i0, hi, hz0, hz1, hz2⟩ := info_parts info3'
  have hrow := Ints.nil w.heap.size w
  go_enter Try.func26, Try.ntmps26
  go_wp2
  refine wp_loop_rounds 1 ?_
  rw [rounds_succ]
  go_wp2_with (first
    | (at_builtin; refine wpList_append_own _ rfl _ _ 33 rfl w.heap.size 3 i0 (.int .i64 0) 1 8 Try.underlying33 hi hz0 hz1 hz2 rfl (by decide) _ _ _ rfl (World.ownsRow.alloc hrow _) ⟨w.heap.size, 0, none⟩ 1 1 [.int .i64 _] rfl rfl (cell_one_new _ _ _) (by simp [Value.oneCell']) (by simp [maxLen]) (by simp) (by simp) ?_
       intro v' w3 hown' hgrow _; obtain ⟨hi3, hb3⟩ := Ints.appended hrow (Nat.le_refl _) hown' hgrow; clear hrow hown' hgrow)
    | go_in)
  go_ret
  exact ⟨_, rfl, by simpa [riseL, riseTo] using hi3, hb3⟩

theorem rising_any (b0 : Nat) (v : Value) (l : List Int) (n : Int) (w : World) (hlen : l.length ≤ 1000) (h : Ints b0 w v l) :
    Calls Try.prog 26 #[v, .int .i64 n] w fun e w' => ∃ v', e = .returned v' ∧ Ints w.heap.size w' v' (riseL l n) ∧ Below w.heap.size w w' := by
  rcases h.cases with ⟨rfl, rfl⟩ | ⟨g, cap, rfl, _, hg, _, _, hc, _⟩
  · exact rising_nil n w
  · exact rising_some g cap l n w hlen hg hc

theorem crash_snoc {es : List Ent} {k : Nat} {e : Ent} (he : es[k]? = some e) (h : (es.take k).any crashE = false) (hc : crashE e = false) : (es.take (k + 1)).any crashE = false := by
  rw [List.take_add_one, he]
  simp [h, hc]
theorem crash_hit {es : List Ent} {k : Nat} {e : Ent} (he : es[k]? = some e) (hc : crashE e = true) : es.any crashE = true := List.any_eq_true.2 ⟨e, List.mem_of_getElem? he, hc⟩

set_option maxRecDepth 100000 in
set_option maxHeartbeats 1000000 in
theorem crashes_some (b off cap : Nat) (es : List Ent) (w : World) (hlen : es.length ≤ 1000) (hc : ∀ i e, es[i]? = some e → EntAt w b (off + i * 6) e) :
    Calls Try.prog 27 #[.slice (some ⟨b, off, none⟩) es.length cap] w fun r w' => r = .returned (.bool (es.any crashE)) ∧ w' = w := by
  go_enter Try.func27, Try.ntmps27
  go_wp2
  go_loop [3] (fun i => ∃ k : Nat, i = .int .i64 k ∧ k ≤ es.length ∧ (es.take k).any crashE = false) (fun i => es.length - (intOf i).toNat)
  case atStart => exact ⟨0, rfl, Nat.zero_le _, by simp⟩
  case round =>
    obtain ⟨k, rfl, hk, hno⟩ := hrel
    by_cases hlt : k < es.length
    · obtain ⟨e, he⟩ : ∃ e, es[k]? = some e := ⟨_, List.getElem?_eq_getElem hlt⟩
      have c0 := (hc k e he).kind
      have HE := Lib.hid he
      have HN := Lib.hid hno
      clear he hc hno
      go_wp2
      · go_ret
        exact ⟨ret_bool (crash_hit HE.out (by simp only [crashE]; simp_all)).symm, rfl⟩
      · go_round
        case rel => exact ⟨k + 1, by go_num, by omega, crash_snoc HE.out HN.out (by simp only [crashE]; simp_all)⟩
        case measure => simp [intOf]; omega
    · obtain rfl : k = es.length := by omega
      rw [List.take_length] at hno
      go_wp2
      go_ret
      exact ⟨rfl, rfl⟩

end Go.Proofs.Ytgincippgaecfaa.Au
