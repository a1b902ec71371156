/-
  J1: The reference's has, onward and reached: their walks. No condition but the reach.
  J2: The reference's onward and reached: their walks. No condition but the reach.
  J3: The reference's begins and leads: their walks. No condition but the reach.
-/
import Derived.Test.YtgincippgaecfaaPJ
import Derived.Test.YtgincippgaecfaaLeaf
import Derived.Maps.AppendAt
import Derived.LoopTactic
import Derived.Lib.Hide
import Derived.RangeFuncBox
import Derived.Deep.RegionWith
import Derived.Lib.IndexBytes
namespace Go.Proofs.Ytgincippgaecfaa.Au
open Go Go.RowKit

/-- THE CELLS OF A CONFIGURATION, from place o of block b on. -/
structure QcAt (W : World) (b o : Nat) (c : Qc) : Prop where
  name : W.cell? ⟨b, o, none⟩ = some (.string c.name)
  most : W.cell? ⟨b, o + 1, none⟩ = some (.int .i64 c.most)
  dead : W.cell? ⟨b, o + 2, none⟩ = some (.string c.dead)
  tries : W.cell? ⟨b, o + 3, none⟩ = some (.int .i64 c.tries)
  dur : W.cell? ⟨b, o + 4, none⟩ = some (.bool c.durable)

theorem QcAt.below {n : Nat} {A B : World} (h : Below n A B) {b o : Nat} {c : Qc} (hb : b < n) (k : QcAt A b o c) : QcAt B b o c :=
  ⟨(h.cell (p := ⟨b, o, none⟩) hb).trans k.name, (h.cell (p := ⟨b, o + 1, none⟩) hb).trans k.most, (h.cell (p := ⟨b, o + 2, none⟩) hb).trans k.dead,
   (h.cell (p := ⟨b, o + 3, none⟩) hb).trans k.tries, (h.cell (p := ⟨b, o + 4, none⟩) hb).trans k.dur⟩

def QsAt (n : Nat) (W : World) (sv : Value) (qs : List Qc) : Prop :=
  (∃ p c, sv = .slice p 0 c ∧ qs = []) ∨ ∃ b off cap, sv = .slice (some ⟨b, off, none⟩) qs.length cap ∧ b < n ∧ ∀ (i : Nat) (c : Qc), qs[i]? = some c → QcAt W b (off + i * 5) c

theorem QsAt.below {n : Nat} {A B : World} (h : Below n A B) {sv : Value} {qs : List Qc} : QsAt n A sv qs → QsAt n B sv qs
  | .inl e => .inl e
  | .inr ⟨b, off, cap, e, hb, hc⟩ => .inr ⟨b, off, cap, e, hb, fun i x hx => (hc i x hx).below h hb⟩
theorem QsAt.mono {n m : Nat} {W : World} (h : n ≤ m) {sv : Value} {qs : List Qc} : QsAt n W sv qs → QsAt m W sv qs
  | .inl e => .inl e
  | .inr ⟨b, off, cap, e, hb, hc⟩ => .inr ⟨b, off, cap, e, by omega, hc⟩

/-- A row of one-cell elements, opened. -/
theorem row_cases {base e n : Nat} {W : World} {v : Value} {xs : List Value} (h : W.ownsRow base e 1 v n xs) : (v = .slice none 0 0 ∧ n = 0) ∨ ∃ g cap, v = .slice (some ⟨g, 0, none⟩) n cap ∧ base ≤ g ∧ g < W.heap.size ∧ n ≤ cap ∧ cap ≤ maxLen ∧ ∀ (j : Nat) (u : Value), xs[j]? = some u → W.cell? ⟨g, j, none⟩ = some u := by
  rcases h.2 with h0 | ⟨g, cap, cur, rfl, hb, hh, h1, h2, h3, h4⟩
  · exact .inl h0
  · refine .inr ⟨g, cap, rfl, hb, (Array.getElem?_eq_some_iff.1 hh).1, h1, h2, fun j u hu => ?_⟩
    have hj : j < xs.length := (List.getElem?_eq_some_iff.1 hu).1
    rw [World.ownsRow.cellAt h j (by rw [← h.1]; exact hj)]
    exact hu

/-- The slice value owns the names, in a row from block base on. -/
def Strs (base : Nat) (W : World) (v : Value) (l : List ByteArray) : Prop := W.ownsRow base 9 1 v l.length (l.map Value.string)
theorem Strs.nil (base : Nat) (W : World) : Strs base W (.slice none 0 0) [] := World.ownsRow_nil _ _ _ _
theorem Strs.appended {B : Nat} {W w3 : World} {v v' : Value} {l : List ByteArray} {x : ByteArray} {tmp : Obj} (h : Strs B W v l) (hB : B ≤ W.heap.size) (hown : w3.ownsRow B 9 1 v' (l.length + 1) (l.map Value.string ++ [.string x])) (hgrow : (W.alloc tmp).grownBy w3 v.ownBlock) :
    Strs B w3 v' (l ++ [x]) ∧ Below B W w3 := by
  refine ⟨by unfold Strs; simpa using hown, ((Below.refl _ _).alloc hB _).grown hgrow (by simp; omega) fun k e => ?_⟩
  exact (World.ownsRow.lt h k e).1

def hasL (l : List ByteArray) (s : Nm) : Bool := l.any fun b => b.toList == s
theorem hasL_iff {l : List ByteArray} {s : Nm} : hasL l s = true ↔ s ∈ l.map (·.toList) := by
  simp [hasL, List.any_eq_true]

set_option maxRecDepth 100000 in
set_option maxHeartbeats 1000000 in
theorem has_any (base : Nat) (v : Value) (l : List ByteArray) (s : ByteArray) (w : World) (h : Strs base w v l) (hl : l.length ≤ 9000000000000000) :
    Calls Try.prog 83 #[v, .string s] w fun r w' => r = .returned (.bool (hasL l s.toList)) ∧ w' = w := by
  rcases row_cases h with ⟨rfl, h0⟩ | ⟨g, cap, rfl, _, _, _, _, hc⟩
  · obtain rfl : l = [] := List.length_eq_zero_iff.1 h0
    go_enter Try.func83, Try.ntmps83
    go_wp2
    refine wp_loop_rounds 1 ?_
    rw [rounds_succ]
    go_wp2
    go_ret
    exact ⟨rfl, rfl⟩
  · clear h
    go_enter Try.func83, Try.ntmps83
    go_wp2
    go_loop [5] (fun i => ∃ k : Nat, i = .int .i64 k ∧ k ≤ l.length ∧ hasL (l.take k) s.toList = false) (fun i => l.length - (intOf i).toNat)
    case atStart => exact ⟨0, rfl, Nat.zero_le _, by simp [hasL]⟩
    case round =>
      obtain ⟨k, rfl, hk, hno⟩ := hrel
      by_cases hlt : k < l.length
      · obtain ⟨x, hx⟩ : ∃ x, l[k]? = some x := ⟨_, List.getElem?_eq_getElem hlt⟩
        have c0 := hc k (.string x) (by rw [List.getElem?_map, hx]; rfl)
        have HX := Lib.hid hx
        have HN := Lib.hid hno
        clear hx hno hc
        go_wp2
        · go_ret
          refine ⟨ret_bool ?_, rfl⟩
          have hq : (x.toList == s.toList) = true := by assumption
          symm
          exact List.any_eq_true.2 ⟨x, List.mem_of_getElem? HX.out, hq⟩
        · go_round
          case rel =>
            have hq : (x.toList == s.toList) = false := by assumption
            exact ⟨k + 1, by go_num, by omega, by unfold hasL at *; rw [List.take_add_one, HX.out]; simp [HN.out, hq]⟩
          case measure => simp [intOf]; omega
      · obtain rfl : k = l.length := by omega
        rw [List.take_length] at hno
        have HN := Lib.hid hno
        clear hno hc
        go_wp2
        go_ret
        exact ⟨ret_bool HN.out.symm, rfl⟩

end Go.Proofs.Ytgincippgaecfaa.Au

namespace Go.Proofs.Ytgincippgaecfaa.Au
open Go Go.RowKit

theorem info9 : (Try.prog.info? 9).map (fun i => (i.zero, i.size, i.bytes)) = some (some (.string ⟨#[]⟩), 1, 16) := by kernel_rfl

def goesOn (n : Nm) (c : Qc) : Bool := (c.name.toList == n) && !(c.dead.toList.isEmpty)
theorem deads_take {qs : List Qc} {n : Nm} {k : Nat} {c : Qc} (hc : qs[k]? = some c) : deads (qs.take (k + 1)) n = deads (qs.take k) n ++ (if goesOn n c then [c.dead.toList] else []) := by
  have hg : ((c.name.toList == n) && !(c.dead.toList == [])) = goesOn n c := by
    unfold goesOn
    cases c.dead.toList <;> simp
  unfold deads
  rw [List.take_add_one, hc]
  simp only [Option.toList_some, List.filter_append, List.map_append]
  congr 1
  rw [List.filter_cons, hg]
  cases goesOn n c <;> simp
theorem onward_skip {qs : List Qc} {n : Nm} {k : Nat} {c : Qc} {out : List Nm} (hc : qs[k]? = some c) (h : goesOn n c = false) : onwardL (qs.take (k + 1)) n out = onwardL (qs.take k) n out := by
  unfold onwardL; rw [deads_take hc, h]; simp
theorem onward_push {qs : List Qc} {n : Nm} {k : Nat} {c : Qc} {out : List Nm} (hc : qs[k]? = some c) (h : goesOn n c = true) : onwardL (qs.take (k + 1)) n out = pushNew (onwardL (qs.take k) n out) c.dead.toList := by
  unfold onwardL; rw [deads_take hc, h]; simp

/-- Between two rounds of onward. -/
def OW (B : Nat) (w : World) (qs : List Qc) (n : Nm) (out : List Nm) (k : Nat) (v : Value) (os : List ByteArray) (W : World) : Prop :=
  Strs B W v os ∧ os.map (·.toList) = onwardL (qs.take k) n out ∧ os.length ≤ out.length + k ∧ Below B w W
theorem OW.skip {B : Nat} {w W : World} {qs : List Qc} {n : Nm} {out : List Nm} {k : Nat} {v : Value} {os : List ByteArray} {c : Qc} (h : OW B w qs n out k v os W) (hc : qs[k]? = some c) (hg : goesOn n c = false) : OW B w qs n out (k + 1) v os W :=
  ⟨h.1, by rw [onward_skip hc hg]; exact h.2.1, by have := h.2.2.1; omega, h.2.2.2⟩
theorem OW.old {B : Nat} {w W : World} {qs : List Qc} {n : Nm} {out : List Nm} {k : Nat} {v : Value} {os : List ByteArray} {c : Qc} (h : OW B w qs n out k v os W) (hc : qs[k]? = some c) (hg : goesOn n c = true) (hh : hasL os c.dead.toList = true) : OW B w qs n out (k + 1) v os W :=
  ⟨h.1, by rw [onward_push hc hg, ← h.2.1]; unfold pushNew; rw [if_pos (hasL_iff.1 hh)], by have := h.2.2.1; omega, h.2.2.2⟩
theorem OW.new {B : Nat} {w W w3 : World} {qs : List Qc} {n : Nm} {out : List Nm} {k : Nat} {v v' : Value} {os : List ByteArray} {c : Qc} (h : OW B w qs n out k v os W) (hc : qs[k]? = some c) (hg : goesOn n c = true) (hh : hasL os c.dead.toList = false)
    (hs : Strs B w3 v' (os ++ [c.dead])) (hb : Below B W w3) : OW B w qs n out (k + 1) v' (os ++ [c.dead]) w3 :=
  ⟨hs, by rw [onward_push hc hg, ← h.2.1]; unfold pushNew; rw [if_neg (fun e => by rw [hasL_iff.2 e] at hh; cases hh)]; simp, by have := h.2.2.1; simp; omega, h.2.2.2.trans hb⟩

theorem goes_name {n : Nm} {c : Qc} (h : ¬ c.name.toList = n) : goesOn n c = false := by simp [goesOn, h]
theorem goes_dead {n : Nm} {c : Qc} (h : c.dead.toList.isEmpty = true) : goesOn n c = false := by simp [goesOn, h]
theorem goes_yes {n : Nm} {c : Qc} (h1 : c.name.toList = n) (h2 : c.dead.toList.isEmpty = false) : goesOn n c = true := by
  simp [goesOn, h1, h2]

theorem by_not {a b : Bool} (h : a = b) (hn : (!b) = true) : a = false := by subst h; simpa using hn
theorem by_yes {a b : Bool} (h : a = b) (hn : (!b) = false) : a = true := by subst h; simpa using hn

set_option maxRecDepth 100000 in
set_option maxHeartbeats 4000000 in
theorem onward_some (B b off cap : Nat) (qs : List Qc) (s : ByteArray) (v : Value) (out : List ByteArray) (w : World) (hq : qs.length * 56 ≤ 140737488351232) (hb : b < B) (hB : B ≤ w.heap.size) (hc : ∀ (i : Nat) (c : Qc), qs[i]? = some c → QcAt w b (off + i * 5) c)
    (ho : Strs B w v out) (hol : out.length ≤ qs.length) :
    Calls Try.prog 92 #[.slice (some ⟨b, off, none⟩) qs.length cap, .string s, v] w fun r w' => ∃ v' os, r = .returned v' ∧ OW B w qs s.toList (out.map (·.toList)) qs.length v' os w' := by
  obtain ⟨i0, hi, hz0, hz1, hz2⟩ := info_parts info9
  have HO := Lib.hid ho
  clear ho
  go_enter Try.func92, Try.ntmps92
  go_wp2
  go_loopw [2, 7] (fun vo i wr => ∃ (k : Nat) (os : List ByteArray), i = .int .i64 k ∧ k ≤ qs.length ∧ OW B w qs s.toList (out.map (·.toList)) k vo os wr) (fun _ i _ => qs.length - (intOf i).toNat)
  case atStart => exact ⟨0, out, rfl, Nat.zero_le _, HO.out, by simp [onwardL, deads], by simp, Below.refl _ _⟩
  case round =>
    obtain ⟨k, os, rfl, hk, hW⟩ := hrel
    by_cases hlt : k < qs.length
    · obtain ⟨c, hcq⟩ : ∃ c, qs[k]? = some c := ⟨_, List.getElem?_eq_getElem hlt⟩
      obtain ⟨c0, _, c2, _, _⟩ := (hc k c hcq).below hW.2.2.2 hb
      have hl := hW.2.2.1
      simp only [List.length_map] at hl
      have hm1 : os.length + 1 ≤ maxLen := by unfold maxLen; omega
      have hm2 : (os.length + 1) * 16 ≤ 140737488355328 := by omega
      have hws := Nat.le_trans hB hW.2.2.2.size
      have hrow := hW.1
      have hhas := has_any B u2 os c.dead wr hW.1 (by omega)
      have HW := Lib.hid hW
      have HC := Lib.hid hcq
      clear hW hcq hc
      obtain ⟨hb1, hhb⟩ : ∃ x, hasL os c.dead.toList = x := ⟨_, rfl⟩
      rw [hhb] at hhas
      have HH := Lib.hid hhb
      clear hhb
      go_wp2_with (first
        | (go_at_call 83; refine hhas.mono ?_; clear hhas; rintro r w2 ⟨rfl, hw2⟩; cases hw2)
        | (at_builtin; refine wpList_append_own _ rfl _ _ 67 rfl B 9 i0 (.string ⟨#[]⟩) 1 16 Try.underlying67 hi hz0 hz1 hz2 rfl (by decide) _ _ _ rfl (World.ownsRow.alloc hrow _) ⟨wr.heap.size, 0, none⟩ 1 1 [.string _] rfl rfl (cell_one_new _ _ _) (by simp [Value.oneCell']) hm1 hm2 (by simp; omega) ?_
           intro v' w3 hown' hgrow _; obtain ⟨hi3, hb3⟩ := Strs.appended hrow hws hown' hgrow; clear hrow hown' hgrow)
        | go_in)
      all_goals go_round
      all_goals first
        | (case measure => simp [intOf]; omega)
        | exact ⟨k + 1, _, by go_num, by omega, HW.out.skip HC.out (goes_dead (by assumption))⟩
        | exact ⟨k + 1, _, by go_num, by omega, HW.out.skip HC.out (goes_name (by assumption))⟩
        | exact ⟨k + 1, _, by go_num, by omega, HW.out.new HC.out (goes_yes (by assumption) (by assumption)) (by_not HH.out (by assumption)) hi3 hb3⟩
        | exact ⟨k + 1, _, by go_num, by omega, HW.out.old HC.out (goes_yes (by assumption) (by assumption)) (by_yes HH.out (by assumption))⟩
    · obtain rfl : k = qs.length := by omega
      go_wp2
      go_ret
      exact ⟨_, _, rfl, hW⟩

theorem deads_none (n : Nm) : deads [] n = [] := rfl

set_option maxRecDepth 100000 in
set_option maxHeartbeats 1000000 in
/-- onward (no condition but the sizes). -/
theorem onward_any (B : Nat) (sv : Value) (qs : List Qc) (s : ByteArray) (v : Value) (out : List ByteArray) (w : World) (hq : qs.length * 56 ≤ 140737488351232) (hB : B ≤ w.heap.size) (hs : QsAt B w sv qs)
    (ho : Strs B w v out) (hol : out.length ≤ qs.length) :
    Calls Try.prog 92 #[sv, .string s, v] w fun r w' => ∃ v' os, r = .returned v' ∧ OW B w qs s.toList (out.map (·.toList)) qs.length v' os w' := by
  rcases hs with ⟨p, c, rfl, rfl⟩ | ⟨b, off, cap, rfl, hb, hc⟩
  · go_enter Try.func92, Try.ntmps92
    go_wp2
    refine wp_loop_rounds 1 ?_
    rw [rounds_succ]
    go_wp2
    go_ret
    exact ⟨_, _, rfl, ho, by simp [onwardL, deads], by simp, Below.refl _ _⟩
  · exact onward_some B b off cap qs s v out w hq hb hB hc ho hol

/-- Between two rounds of reached. -/
def RW (B : Nat) (w : World) (qs : List Qc) (n : Nm) (k : Nat) (v : Value) (os : List ByteArray) (W : World) : Prop :=
  Strs B W v os ∧ RC qs n k (os.map (·.toList)) ∧ k ≤ os.length ∧ Below B w W
theorem RW.start {B : Nat} {w W : World} {qs : List Qc} {n : Nm} {v : Value} {os : List ByteArray} (h : OW B w qs n [] qs.length v os W) : RW B w qs n 0 v os W :=
  ⟨h.1, by rw [h.2.1, List.take_length]; exact RC.start qs n, Nat.zero_le _, h.2.2.2⟩
theorem RW.length {B : Nat} {w W : World} {qs : List Qc} {n : Nm} {k : Nat} {v : Value} {os : List ByteArray} (h : RW B w qs n k v os W) : os.length ≤ qs.length := by
  simpa using h.2.1.length
theorem RW.step {B : Nat} {w W W' : World} {qs : List Qc} {n : Nm} {k : Nat} {v v' : Value} {os os' : List ByteArray} {x : ByteArray} (h : RW B w qs n k v os W) (hx : os[k]? = some x) (ho : OW B W qs x.toList (os.map (·.toList)) qs.length v' os' W') : RW B w qs n (k + 1) v' os' W' := by
  have hs := h.2.1.step (x := x.toList) (by rw [List.getElem?_map, hx]; rfl)
  have he : os'.map (·.toList) = onwardL qs x.toList (os.map (·.toList)) := by rw [ho.2.1, List.take_length]
  refine ⟨ho.1, by rw [he]; exact hs, ?_, h.2.2.2.trans ho.2.2.2⟩
  obtain ⟨t, ht⟩ := (foldNew (deads qs x.toList) (os.map (·.toList))).2.2
  have h1 := congrArg List.length (he.trans ht.symm)
  simp only [List.length_map, List.length_append] at h1
  have h2 : k < os.length := (List.getElem?_eq_some_iff.1 hx).1
  omega

set_option maxRecDepth 100000 in
set_option maxHeartbeats 4000000 in
/-- reached: just what can be reached (no condition but the size). -/
theorem reached_any (B : Nat) (sv : Value) (qs : List Qc) (s : ByteArray) (w : World) (hq : qs.length * 56 ≤ 140737488351232) (hB : B ≤ w.heap.size) (hs : QsAt B w sv qs) :
    Calls Try.prog 84 #[sv, .string s] w fun r w' => ∃ v' os, r = .returned v' ∧ Strs B w' v' os ∧ os.length ≤ qs.length ∧ (∀ g : Nm, hasL os g = true ↔ Reach qs s.toList g) ∧ Below B w w' := by
  have hon := onward_any B sv qs s (.slice none 0 0) [] w hq hB hs (Strs.nil B w) (Nat.zero_le _)
  go_enter Try.func84, Try.ntmps84
  go_wp2_with (first
    | (go_at_call 92; refine hon.mono ?_; clear hon; rintro r w2 ⟨v2, os2, rfl, ho2⟩)
    | go_in)
  go_loopw [5, 6] (fun vo i wr => ∃ (k : Nat) (os : List ByteArray), i = .int .i64 k ∧ RW B w qs s.toList k vo os wr) (fun _ i _ => qs.length - (intOf i).toNat)
  case atStart => exact ⟨0, os2, rfl, .start ho2⟩
  case round =>
    obtain ⟨k, os, rfl, hW⟩ := hrel
    have hl := hW.length
    have hk := hW.2.2.1
    rcases row_cases hW.1 with ⟨rfl, h0⟩ | ⟨g, cap, rfl, _, _, _, _, hc⟩
    · obtain rfl : os = [] := List.length_eq_zero_iff.1 h0
      obtain rfl : k = 0 := by simpa using hk
      go_wp2
      go_ret
      refine ⟨_, _, rfl, hW.1, by simp, fun g => ?_, hW.2.2.2⟩
      rw [hasL_iff]
      exact hW.2.1.end g
    · by_cases hlt : k < os.length
      · obtain ⟨x, hx⟩ : ∃ x, os[k]? = some x := ⟨_, List.getElem?_eq_getElem hlt⟩
        have c0 := hc k (.string x) (by rw [List.getElem?_map, hx]; rfl)
        have hon2 := onward_any B sv qs x _ os wr hq (Nat.le_trans hB hW.2.2.2.size) (hs.below hW.2.2.2) hW.1 hl
        have HW := Lib.hid hW
        have HX := Lib.hid hx
        clear hW hx hc
        go_wp2_with (first
          | (go_at_call 92; refine hon2.mono ?_; clear hon2; rintro r w4 ⟨v4, os4, rfl, ho4⟩)
          | go_in)
        go_round
        case rel => exact ⟨k + 1, _, by go_num, HW.out.step HX.out ho4⟩
        case measure => simp [intOf]; omega
      · obtain rfl : k = os.length := by omega
        clear hc
        go_wp2
        go_ret
        refine ⟨_, _, rfl, hW.1, hl, fun g => ?_, hW.2.2.2⟩
        rw [hasL_iff]
        exact (by simpa using hW.2.1 : RC qs s.toList (os.map (·.toList)).length (os.map (·.toList))).end g

end Go.Proofs.Ytgincippgaecfaa.Au

namespace Go.Proofs.Ytgincippgaecfaa.Au
open Go Go.RowKit

theorem take_toList (s : ByteArray) (n : Nat) : (s.extract 0 n).toList = s.toList.take n := by
  rw [Lib.toList_data, Lib.toList_data, Lib.extract_data]; simp
theorem drop_toList (s : ByteArray) (n : Nat) : (s.extract n s.size).toList = s.toList.drop n := by
  rw [Lib.toList_data, Lib.toList_data, Lib.extract_to_end]
theorem size_toList (s : ByteArray) : s.toList.length = s.size := by
  rw [Lib.toList_data, Lib.size_eq]
theorem beginsB_take {s h : ByteArray} : beginsB s.toList h.toList = ((s.extract 0 h.size).toList == h.toList) := by
  unfold beginsB
  rw [take_toList, size_toList]
theorem beginsB_short {s h : ByteArray} (hl : ¬ h.size ≤ s.size) : beginsB s.toList h.toList = false := by
  unfold beginsB
  rw [size_toList, beq_eq_false_iff_ne]
  intro e
  have := congrArg List.length e
  rw [List.length_take, size_toList, size_toList] at this
  omega
theorem beginsB_size {s h : ByteArray} (hb : beginsB s.toList h.toList = true) : h.size ≤ s.size := by
  false_or_by_contra
  rename_i hl
  rw [beginsB_short hl] at hb
  cases hb

set_option maxRecDepth 100000 in
set_option maxHeartbeats 1000000 in
theorem begins_any (s h : ByteArray) (w : World) :
    Calls Try.prog 57 #[.string s, .string h] w fun r w' => r = .returned (.bool (beginsB s.toList h.toList)) ∧ w' = w := by
  go_enter Try.func57, Try.ntmps57
  by_cases hl : h.size ≤ s.size
  · go_wp2
    go_ret
    exact ⟨ret_bool beginsB_take.symm, rfl⟩
  · go_wp2
    go_ret
    exact ⟨ret_bool (beginsB_short hl).symm, rfl⟩

def topicA : ByteArray := ⟨#[116, 111, 112, 105, 99, 47]⟩
def queueA : ByteArray := ⟨#[113, 117, 101, 117, 101, 47]⟩
theorem topicA_list : topicA.toList = topicB := by kernel_rfl
theorem queueA_list : queueA.toList = queueB := by kernel_rfl

theorem leads_same {qs : List Qc} {a b : Nm} (h : (a == b) = true) : leadsB qs a b = true := by unfold leadsB; simp [eq_of_beq h]
theorem leads_topic {qs : List Qc} {a b : Nm} (h : beginsB a topicB = true) : leadsB qs a b = true := by unfold leadsB; simp [h]
theorem leads_one {qs : List Qc} {a b : Nm} (h : (a == b) = false) (ht : beginsB a topicB = false) (h1 : beginsB a queueB = false) : leadsB qs a b = false := by
  have h := ne_of_beq_false h
  unfold leadsB; simp [h, ht, h1]
theorem leads_two {qs : List Qc} {a b : Nm} (h : (a == b) = false) (ht : beginsB a topicB = false) (h1 : beginsB b queueB = false) : leadsB qs a b = false := by
  have h := ne_of_beq_false h
  unfold leadsB; simp [h, ht, h1]
open Classical in
theorem leads_way {qs : List Qc} {a b : Nm} (h : (a == b) = false) (ht : beginsB a topicB = false) (h1 : beginsB a queueB = true) (h2 : beginsB b queueB = true) {r : Bool} (hr : r = true ↔ Reach qs (a.drop 6) (b.drop 6)) : leadsB qs a b = r := by
  have h := ne_of_beq_false h
  have hi : (a = b ∨ beginsB a topicB = true ∨ (beginsB a queueB = true ∧ beginsB b queueB = true ∧ Reach qs (a.drop 6) (b.drop 6))) ↔ r = true := by
    rw [hr]
    constructor
    · rintro (e | e | ⟨_, _, e⟩)
      · exact absurd e h
      · rw [ht] at e; cases e
      · exact e
    · exact fun e => .inr (.inr ⟨h1, h2, e⟩)
  unfold leadsB
  cases r
  · exact decide_eq_false fun e => by cases hi.1 e
  · exact decide_eq_true (hi.2 rfl)
theorem not_yes {a : Bool} (h : (!a) = true) : a = false := by simpa using h
theorem not_no {a : Bool} (h : (!a) = false) : a = true := by simpa using h

set_option maxRecDepth 100000 in
set_option maxHeartbeats 8000000 in
theorem leads_any (B : Nat) (sv : Value) (qs : List Qc) (a b : ByteArray) (w : World) (hq : qs.length * 56 ≤ 140737488351232) (hB : B ≤ w.heap.size) (hs : QsAt B w sv qs) :
    Calls Try.prog 58 #[sv, .string a, .string b] w fun r w' => r = .returned (.bool (leadsB qs a.toList b.toList)) ∧ Below B w w' := by
  have hre : ∀ W, Below B w W → Calls Try.prog 84 #[sv, .string (a.extract 6 a.size)] W fun r w' => ∃ v' os, r = .returned v' ∧ Strs B w' v' os ∧ os.length ≤ qs.length ∧ (∀ g : Nm, hasL os g = true ↔ Reach qs (a.toList.drop 6) g) ∧ Below B W w' := fun W hW => by
    rw [← drop_toList]
    exact reached_any B sv qs _ W hq (Nat.le_trans hB hW.size) (hs.below hW)
  obtain ⟨f, hf⟩ : ∃ f : ByteArray → ByteArray → Bool, ∀ s h, beginsB s.toList h.toList = f s h := ⟨fun s h => beginsB s.toList h.toList, fun _ _ => rfl⟩
  have hbe : ∀ s h W, Calls Try.prog 57 #[.string s, .string h] W fun r w' => r = .returned (.bool (f s h)) ∧ w' = W := fun s h W => by
    have := begins_any s h W
    rwa [hf] at this
  have H1 : ∀ x, f a ⟨#[116, 111, 112, 105, 99, 47]⟩ = x → beginsB a.toList topicB = x := fun x e => by rw [← topicA_list, hf]; exact e
  have H2 : ∀ x, f a ⟨#[113, 117, 101, 117, 101, 47]⟩ = x → beginsB a.toList queueB = x := fun x e => by rw [← queueA_list, hf]; exact e
  have H3 : ∀ x, f b ⟨#[113, 117, 101, 117, 101, 47]⟩ = x → beginsB b.toList queueB = x := fun x e => by rw [← queueA_list, hf]; exact e
  have s1 : f a ⟨#[113, 117, 101, 117, 101, 47]⟩ = true → 6 ≤ a.size := fun e => beginsB_size (h := queueA) ((hf _ _).trans e)
  have s2 : f b ⟨#[113, 117, 101, 117, 101, 47]⟩ = true → 6 ≤ b.size := fun e => beginsB_size (h := queueA) ((hf _ _).trans e)
  have HH1 := Lib.hid H1
  have HH2 := Lib.hid H2
  have HH3 := Lib.hid H3
  have HS1 := Lib.hid s1
  have HS2 := Lib.hid s2
  clear hs H1 H2 H3 s1 s2 hf
  go_enter Try.func58, Try.ntmps58
  go_wp2_with (first
    | (go_at_call 57; refine (hbe _ _ _).mono ?_; rintro r w2 ⟨rfl, hw2⟩; cases hw2)
    | go_in)
  · go_ret
    exact ⟨ret_bool (leads_same (by assumption)).symm, Below.refl _ _⟩
  · go_ret
    exact ⟨ret_bool (leads_topic (HH1.out _ (by assumption))).symm, Below.refl _ _⟩
  · go_ret
    exact ⟨ret_bool (leads_two (by assumption) (HH1.out _ (by assumption)) (HH3.out _ (not_yes (by assumption)))).symm, Below.refl _ _⟩
  · have g1 := HS1.out (by assumption)
    have g2 := HS2.out (not_no (by assumption))
    go_region_with (first
      | (go_at_call 84; refine (hre _ ?_).mono ?_; exact (Below.refl _ _).drew; rintro r w2 ⟨v2, os2, rfl, hs2, hl2, hr2, hb2⟩)
      | (go_at_call 83; refine (has_any _ _ _ _ _ hs2 (by omega)).mono ?_; rintro r w4 ⟨rfl, rfl⟩))
    all_goals go_wp2
    all_goals go_ret
    all_goals exact ⟨ret_bool (leads_way (by assumption) (HH1.out _ (by assumption)) (HH2.out _ (by assumption)) (HH3.out _ (not_no (by assumption))) (by rw [drop_toList]; exact hr2 _)).symm, (Below.refl _ _).drew.trans hb2⟩
  · go_ret
    exact ⟨ret_bool (leads_one (by assumption) (HH1.out _ (by assumption)) (HH2.out _ (Bool.eq_false_iff.2 (by assumption)))).symm, Below.refl _ _⟩

end Go.Proofs.Ytgincippgaecfaa.Au
