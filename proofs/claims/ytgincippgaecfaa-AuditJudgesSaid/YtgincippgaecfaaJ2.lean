/-
  The reference's onward and reached: their walks. No condition but the reach.
-/
import Derived.Test.YtgincippgaecfaaJ1
namespace Go.Proofs.Ytgincippgaecfaa.Au
open Go Go.RowKit

theorem info9 : (Try.prog.info? 9).map (fun i => (i.zero, i.size, i.bytes)) = some (some (.string ⟨#[]⟩), 1, 16) := by kernel_rfl

def goesOn (n : Nm) (c : Qc) : Bool := (c.name.toList == n) && !(c.dead.toList.isEmpty)
theorem deads_take {qs : List Qc} {n : Nm} {k : Nat} {c : Qc} (hc : qs[k]? = some c) : deads (qs.take (k + 1)) n = deads (qs.take k) n ++ (if goesOn n c then [c.dead.toList] else []) := by
  have hg : ((c.name.toList == n) && !(c.dead.toList == [])) = goesOn n c := by
    unfold goesOn
    cases c.dead.toList <;> simp
  unfold deads
  rw [List.take_add_one, hc]
  simp only [Option.toList_some, List.filter_append, List.map_append]
  congr 1
  rw [List.filter_cons, hg]
  cases goesOn n c <;> simp
theorem onward_skip {qs : List Qc} {n : Nm} {k : Nat} {c : Qc} {out : List Nm} (hc : qs[k]? = some c) (h : goesOn n c = false) : onwardL (qs.take (k + 1)) n out = onwardL (qs.take k) n out := by
  unfold onwardL; rw [deads_take hc, h]; simp
theorem onward_push {qs : List Qc} {n : Nm} {k : Nat} {c : Qc} {out : List Nm} (hc : qs[k]? = some c) (h : goesOn n c = true) : onwardL (qs.take (k + 1)) n out = pushNew (onwardL (qs.take k) n out) c.dead.toList := by
  unfold onwardL; rw [deads_take hc, h]; simp

/-- Between two rounds of onward. -/
def OW (B : Nat) (w : World) (qs : List Qc) (n : Nm) (out : List Nm) (k : Nat) (v : Value) (os : List ByteArray) (W : World) : Prop :=
  Strs B W v os ∧ os.map (·.toList) = onwardL (qs.take k) n out ∧ os.length ≤ out.length + k ∧ Below B w W
theorem OW.skip {B : Nat} {w W : World} {qs : List Qc} {n : Nm} {out : List Nm} {k : Nat} {v : Value} {os : List ByteArray} {c : Qc} (h : OW B w qs n out k v os W) (hc : qs[k]? = some c) (hg : goesOn n c = false) : OW B w qs n out (k + 1) v os W :=
  ⟨h.1, by rw [onward_skip hc hg]; exact h.2.1, by have := h.2.2.1; omega, h.2.2.2⟩
theorem OW.old {B : Nat} {w W : World} {qs : List Qc} {n : Nm} {out : List Nm} {k : Nat} {v : Value} {os : List ByteArray} {c : Qc} (h : OW B w qs n out k v os W) (hc : qs[k]? = some c) (hg : goesOn n c = true) (hh : hasL os c.dead.toList = true) : OW B w qs n out (k + 1) v os W :=
  ⟨h.1, by rw [onward_push hc hg, ← h.2.1]; unfold pushNew; rw [if_pos (hasL_iff.1 hh)], by have := h.2.2.1; omega, h.2.2.2⟩
theorem OW.new {B : Nat} {w W w3 : World} {qs : List Qc} {n : Nm} {out : List Nm} {k : Nat} {v v' : Value} {os : List ByteArray} {c : Qc} (h : OW B w qs n out k v os W) (hc : qs[k]? = some c) (hg : goesOn n c = true) (hh : hasL os c.dead.toList = false)
    (hs : Strs B w3 v' (os ++ [c.dead])) (hb : Below B W w3) : OW B w qs n out (k + 1) v' (os ++ [c.dead]) w3 :=
  ⟨hs, by rw [onward_push hc hg, ← h.2.1]; unfold pushNew; rw [if_neg (fun e => by rw [hasL_iff.2 e] at hh; cases hh)]; simp, by have := h.2.2.1; simp; omega, h.2.2.2.trans hb⟩

theorem goes_name {n : Nm} {c : Qc} (h : ¬ c.name.toList = n) : goesOn n c = false := by simp [goesOn, h]
theorem goes_dead {n : Nm} {c : Qc} (h : c.dead.toList.isEmpty = true) : goesOn n c = false := by simp [goesOn, h]
theorem goes_yes {n : Nm} {c : Qc} (h1 : c.name.toList = n) (h2 : c.dead.toList.isEmpty = false) : goesOn n c = true := by
  simp [goesOn, h1, h2]

theorem by_not {a b : Bool} (h : a = b) (hn : (!b) = true) : a = false := by subst h; simpa using hn
theorem by_yes {a b : Bool} (h : a = b) (hn : (!b) = false) : a = true := by subst h; simpa using hn

set_option maxRecDepth 100000 in
set_option maxHeartbeats 4000000 in
theorem onward_some (B b off cap : Nat) (qs : List Qc) (s : ByteArray) (v : Value) (out : List ByteArray) (w : World) (hq : qs.length * 56 ≤ 140737488351232) (hb : b < B) (hB : B ≤ w.heap.size) (hc : ∀ (i : Nat) (c : Qc), qs[i]? = some c → QcAt w b (off + i * 5) c)
    (ho : Strs B w v out) (hol : out.length ≤ qs.length) :
    Calls Try.prog 92 #[.slice (some ⟨b, off, none⟩) qs.length cap, .string s, v] w fun r w' => ∃ v' os, r = .returned v' ∧ OW B w qs s.toList (out.map (·.toList)) qs.length v' os w' := by
  obtain ⟨i0, hi, hz0, hz1, hz2⟩ := info_parts info9
  have HO := Lib.hid ho
  clear ho
  go_enter Try.func92, Try.ntmps92
  go_wp2
  go_loopw [2, 7] (fun vo i wr => ∃ (k : Nat) (os : List ByteArray), i = .int .i64 k ∧ k ≤ qs.length ∧ OW B w qs s.toList (out.map (·.toList)) k vo os wr) (fun _ i _ => qs.length - (intOf i).toNat)
  case atStart => exact ⟨0, out, rfl, Nat.zero_le _, HO.out, by simp [onwardL, deads], by simp, Below.refl _ _⟩
  case round =>
    obtain ⟨k, os, rfl, hk, hW⟩ := hrel
    by_cases hlt : k < qs.length
    · obtain ⟨c, hcq⟩ : ∃ c, qs[k]? = some c := ⟨_, List.getElem?_eq_getElem hlt⟩
      obtain ⟨c0, _, c2, _, _⟩ := (hc k c hcq).below hW.2.2.2 hb
      have hl := hW.2.2.1
      simp only [List.length_map] at hl
      have hm1 : os.length + 1 ≤ maxLen := by unfold maxLen; omega
      have hm2 : (os.length + 1) * 16 ≤ 140737488355328 := by omega
      have hws := Nat.le_trans hB hW.2.2.2.size
      have hrow := hW.1
      have hhas := has_any B u2 os c.dead wr hW.1 (by omega)
      have HW := Lib.hid hW
      have HC := Lib.hid hcq
      clear hW hcq hc
      obtain ⟨hb1, hhb⟩ : ∃ x, hasL os c.dead.toList = x := ⟨_, rfl⟩
      rw [hhb] at hhas
      have HH := Lib.hid hhb
      clear hhb
      go_wp2_with (first
        | (go_at_call 83; refine hhas.mono ?_; clear hhas; rintro r w2 ⟨rfl, hw2⟩; cases hw2)
        | (at_builtin; refine wpList_append_own _ rfl _ _ 67 rfl B 9 i0 (.string ⟨#[]⟩) 1 16 Try.underlying67 hi hz0 hz1 hz2 rfl (by decide) _ _ _ rfl (World.ownsRow.alloc hrow _) ⟨wr.heap.size, 0, none⟩ 1 1 [.string _] rfl rfl (cell_one_new _ _ _) (by simp [Value.oneCell']) hm1 hm2 (by simp; omega) ?_
           intro v' w3 hown' hgrow _; obtain ⟨hi3, hb3⟩ := Strs.appended hrow hws hown' hgrow; clear hrow hown' hgrow)
        | go_in)
      all_goals go_round
      all_goals first
        | (case measure => simp [intOf]; omega)
        | exact ⟨k + 1, _, by go_num, by omega, HW.out.skip HC.out (goes_dead (by assumption))⟩
        | exact ⟨k + 1, _, by go_num, by omega, HW.out.skip HC.out (goes_name (by assumption))⟩
        | exact ⟨k + 1, _, by go_num, by omega, HW.out.new HC.out (goes_yes (by assumption) (by assumption)) (by_not HH.out (by assumption)) hi3 hb3⟩
        | exact ⟨k + 1, _, by go_num, by omega, HW.out.old HC.out (goes_yes (by assumption) (by assumption)) (by_yes HH.out (by assumption))⟩
    · obtain rfl : k = qs.length := by omega
      go_wp2
      go_ret
      exact ⟨_, _, rfl, hW⟩

theorem deads_none (n : Nm) : deads [] n = [] := rfl

set_option maxRecDepth 100000 in
set_option maxHeartbeats 1000000 in
/-- onward (no condition but the sizes). -/
theorem onward_any (B : Nat) (sv : Value) (qs : List Qc) (s : ByteArray) (v : Value) (out : List ByteArray) (w : World) (hq : qs.length * 56 ≤ 140737488351232) (hB : B ≤ w.heap.size) (hs : QsAt B w sv qs)
    (ho : Strs B w v out) (hol : out.length ≤ qs.length) :
    Calls Try.prog 92 #[sv, .string s, v] w fun r w' => ∃ v' os, r = .returned v' ∧ OW B w qs s.toList (out.map (·.toList)) qs.length v' os w' := by
  rcases hs with ⟨p, c, rfl, rfl⟩ | ⟨b, off, cap, rfl, hb, hc⟩
  · go_enter Try.func92, Try.ntmps92
    go_wp2
    refine wp_loop_rounds 1 ?_
    rw [rounds_succ]
    go_wp2
    go_ret
    exact ⟨_, _, rfl, ho, by simp [onwardL, deads], by simp, Below.refl _ _⟩
  · exact onward_some B b off cap qs s v out w hq hb hB hc ho hol

/-- Between two rounds of reached. -/
def RW (B : Nat) (w : World) (qs : List Qc) (n : Nm) (k : Nat) (v : Value) (os : List ByteArray) (W : World) : Prop :=
  Strs B W v os ∧ RC qs n k (os.map (·.toList)) ∧ k ≤ os.length ∧ Below B w W
theorem RW.start {B : Nat} {w W : World} {qs : List Qc} {n : Nm} {v : Value} {os : List ByteArray} (h : OW B w qs n [] qs.length v os W) : RW B w qs n 0 v os W :=
  ⟨h.1, by rw [h.2.1, List.take_length]; exact RC.start qs n, Nat.zero_le _, h.2.2.2⟩
theorem RW.length {B : Nat} {w W : World} {qs : List Qc} {n : Nm} {k : Nat} {v : Value} {os : List ByteArray} (h : RW B w qs n k v os W) : os.length ≤ qs.length := by
  simpa using h.2.1.length
theorem RW.step {B : Nat} {w W W' : World} {qs : List Qc} {n : Nm} {k : Nat} {v v' : Value} {os os' : List ByteArray} {x : ByteArray} (h : RW B w qs n k v os W) (hx : os[k]? = some x) (ho : OW B W qs x.toList (os.map (·.toList)) qs.length v' os' W') : RW B w qs n (k + 1) v' os' W' := by
  have hs := h.2.1.step (x := x.toList) (by rw [List.getElem?_map, hx]; rfl)
  have he : os'.map (·.toList) = onwardL qs x.toList (os.map (·.toList)) := by rw [ho.2.1, List.take_length]
  refine ⟨ho.1, by rw [he]; exact hs, ?_, h.2.2.2.trans ho.2.2.2⟩
  obtain ⟨t, ht⟩ := (foldNew (deads qs x.toList) (os.map (·.toList))).2.2
  have h1 := congrArg List.length (he.trans ht.symm)
  simp only [List.length_map, List.length_append] at h1
  have h2 : k < os.length := (List.getElem?_eq_some_iff.1 hx).1
  omega

set_option maxRecDepth 100000 in
set_option maxHeartbeats 4000000 in
/-- reached: just what can be reached (no condition but the size). -/
theorem reached_any (B : Nat) (sv : Value) (qs : List Qc) (s : ByteArray) (w : World) (hq : qs.length * 56 ≤ 140737488351232) (hB : B ≤ w.heap.size) (hs : QsAt B w sv qs) :
    Calls Try.prog 84 #[sv, .string s] w fun r w' => ∃ v' os, r = .returned v' ∧ Strs B w' v' os ∧ os.length ≤ qs.length ∧ (∀ g : Nm, hasL os g = true ↔ Reach qs s.toList g) ∧ Below B w w' := by
  have hon := onward_any B sv qs s (.slice none 0 0) [] w hq hB hs (Strs.nil B w) (Nat.zero_le _)
  go_enter Try.func84, Try.ntmps84
  go_wp2_with (first
    | (go_at_call 92; refine hon.mono ?_; clear hon; rintro r w2 ⟨v2, os2, rfl, ho2⟩)
    | go_in)
  go_loopw [5, 6] (fun vo i wr => ∃ (k : Nat) (os : List ByteArray), i = .int .i64 k ∧ RW B w qs s.toList k vo os wr) (fun _ i _ => qs.length - (intOf i).toNat)
  case atStart => exact ⟨0, os2, rfl, .start ho2⟩
  case round =>
    obtain ⟨k, os, rfl, hW⟩ := hrel
    have hl := hW.length
    have hk := hW.2.2.1
    rcases row_cases hW.1 with ⟨rfl, h0⟩ | ⟨g, cap, rfl, _, _, _, _, hc⟩
    · obtain rfl : os = [] := List.length_eq_zero_iff.1 h0
      obtain rfl : k = 0 := by simpa using hk
      go_wp2
      go_ret
      refine ⟨_, _, rfl, hW.1, by simp, fun g => ?_, hW.2.2.2⟩
      rw [hasL_iff]
      exact hW.2.1.end g
    · by_cases hlt : k < os.length
      · obtain ⟨x, hx⟩ : ∃ x, os[k]? = some x := ⟨_, List.getElem?_eq_getElem hlt⟩
        have c0 := hc k (.string x) (by rw [List.getElem?_map, hx]; rfl)
        have hon2 := onward_any B sv qs x _ os wr hq (Nat.le_trans hB hW.2.2.2.size) (hs.below hW.2.2.2) hW.1 hl
        have HW := Lib.hid hW
        have HX := Lib.hid hx
        clear hW hx hc
        go_wp2_with (first
          | (go_at_call 92; refine hon2.mono ?_; clear hon2; rintro r w4 ⟨v4, os4, rfl, ho4⟩)
          | go_in)
        go_round
        case rel => exact ⟨k + 1, _, by go_num, HW.out.step HX.out ho4⟩
        case measure => simp [intOf]; omega
      · obtain rfl : k = os.length := by omega
        clear hc
        go_wp2
        go_ret
        refine ⟨_, _, rfl, hW.1, hl, fun g => ?_, hW.2.2.2⟩
        rw [hasL_iff]
        exact (by simpa using hW.2.1 : RC qs s.toList (os.map (·.toList)).length (os.map (·.toList))).end g

end Go.Proofs.Ytgincippgaecfaa.Au
