/-
  The program's leads: its walk. No condition but the reach.
-/
import Derived.Test.YtgincippgaecfaaJ10
import Derived.Deep.QuietTactic
import Derived.BigQuiet
namespace Go.Proofs.Ytgincippgaecfaa.Au
open Go Go.RowKit

theorem cutA_yes {s h : ByteArray} (hb : beginsB s.toList h.toList = true) : (cutA s h).toList = s.toList.drop h.size := by
  unfold cutA
  rw [if_pos hb, drop_toList]
theorem cutA_size (s h : ByteArray) : (cutA s h).size ≤ s.size := by
  unfold cutA
  split
  · rw [← size_toList, drop_toList, List.length_drop, size_toList]; omega
  · exact Nat.le_refl _

theorem eq_of_beqB {x y : ByteArray} (h : (x.toList == y.toList) = true) : x.toList = y.toList := eq_of_beq h

def qk : ByteArray := ⟨#[113, 117, 101, 117, 101, 47]⟩
def tk : ByteArray := ⟨#[116, 111, 112, 105, 99, 47]⟩

set_option maxRecDepth 100000 in
set_option maxHeartbeats 4000000 in
theorem pleads_same (jv : Value) (a b : ByteArray) (w : World) (h : (a.toList == b.toList) = true) :
    Calls Try.prog 55 #[jv, .string a, .string b] w fun r w' => r = .returned (.bool true) ∧ w' = w := by
  go_enter Try.func55, Try.ntmps55
  go_wp2
  go_ret
  exact ⟨rfl, rfl⟩

set_option maxRecDepth 100000 in
set_option maxHeartbeats 4000000 in
theorem pleads_topic (jv : Value) (a b : ByteArray) (w : World) (h : (a.toList == b.toList) = false) (ht : beginsB a.toList topicB = true) :
    Calls Try.prog 55 #[jv, .string a, .string b] w fun r w' => r = .returned (.bool true) ∧ w' = w := by
  have hp := prefix53_any a topicA w
  rw [topicA_list, ht] at hp
  clear ht
  unfold topicA at hp
  go_enter Try.func55, Try.ntmps55
  go_wp2_with (go_at_call 53; refine hp.mono ?_; clear hp; rintro r w2 ⟨rfl, hw2⟩; cases hw2)
  go_ret
  exact ⟨rfl, rfl⟩

set_option maxRecDepth 100000 in
set_option maxHeartbeats 4000000 in
theorem pleads_no (jv : Value) (a b : ByteArray) (w : World) (x y : Bool) (h : (a.toList == b.toList) = false) (ht : beginsB a.toList topicB = false) (h1 : beginsB a.toList queueB = x) (h2 : beginsB b.toList queueB = y) (hn : (x && y) = false) :
    Calls Try.prog 55 #[jv, .string a, .string b] w fun r w' => r = .returned (.bool false) ∧ w' = w := by
  have hp := prefix53_any a topicA w
  have hc1 := cut82_any a queueA w
  have hc2 := cut82_any b queueA w
  rw [topicA_list, ht] at hp
  rw [queueA_list, h1] at hc1
  rw [queueA_list, h2] at hc2
  obtain ⟨na, hna⟩ : ∃ na, cutA a queueA = na := ⟨_, rfl⟩
  obtain ⟨nb, hnb⟩ : ∃ nb, cutA b queueA = nb := ⟨_, rfl⟩
  rw [hna] at hc1
  rw [hnb] at hc2
  clear ht h1 h2 hna hnb
  unfold topicA at hp
  unfold queueA at hc1 hc2
  cases x with
  | true =>
    obtain rfl : y = false := by simpa using hn
    clear hn
    go_enter Try.func55, Try.ntmps55
    go_wp2_with (first
      | (go_at_call 53; refine hp.mono ?_; clear hp; rintro r w2 ⟨rfl, hw2⟩; cases hw2)
      | (go_at_call 82; refine hc1.mono ?_; clear hc1; rintro r w2 ⟨rfl, hw2⟩; cases hw2)
      | (go_at_call 82; refine hc2.mono ?_; clear hc2; rintro r w2 ⟨rfl, hw2⟩; cases hw2)
      | go_in)
    go_ret
    exact ⟨rfl, rfl⟩
  | false =>
    clear hn
    go_enter Try.func55, Try.ntmps55
    go_wp2_with (first
      | (go_at_call 53; refine hp.mono ?_; clear hp; rintro r w2 ⟨rfl, hw2⟩; cases hw2)
      | (go_at_call 82; refine hc1.mono ?_; clear hc1; rintro r w2 ⟨rfl, hw2⟩; cases hw2)
      | (go_at_call 82; refine hc2.mono ?_; clear hc2; rintro r w2 ⟨rfl, hw2⟩; cases hw2)
      | go_in)
    go_ret
    exact ⟨rfl, rfl⟩

set_option maxRecDepth 100000 in
set_option maxHeartbeats 8000000 in
theorem pleads_way (base hd N jb : Nat) (fd : Value → Value) (qs : List Qc) (a b na nb : ByteArray) (w : World) (hq : qs.length * 56 ≤ 140737488351232) (hj : w.cell? ⟨jb, 0, none⟩ = some (.map (some hd))) (hjb : jb < w.heap.size) (hD : DeadAt base w hd N fd qs)
    (h : (a.toList == b.toList) = false) (ht : beginsB a.toList topicB = false) (h1 : beginsB a.toList queueB = true) (h2 : beginsB b.toList queueB = true) (hna : cutA a queueA = na) (hnb : cutA b queueA = nb) (hsz : na.size ≤ maxLen) :
    Calls Try.prog 55 #[.pointer (some ⟨jb, 0, none⟩), .string a, .string b] w fun r w' => (∃ x, r = .returned (.bool x) ∧ (x = true ↔ Reach qs na.toList nb.toList)) ∧ Below w.heap.size w w' := by
  have hp := prefix53_any a topicA w
  have hc1 := cut82_any a queueA w
  have hc2 := cut82_any b queueA w
  rw [topicA_list, ht] at hp
  rw [queueA_list, h1, hna] at hc1
  rw [queueA_list, h2, hnb] at hc2
  clear ht h1 h2 hna hnb
  unfold topicA at hp
  unfold queueA at hc1 hc2
  have HD := Lib.hid hD
  have HQ := Lib.hid hq
  have HJ := Lib.hid hj
  clear hD hq hj
  have hmm := @run_makeMap Try.prog
  go_enter Try.func55, Try.ntmps55
  go_wp2_with (first
    | (go_at_call 53; refine hp.mono ?_; clear hp; rintro r w2 ⟨rfl, hw2⟩; cases hw2)
    | (go_at_call 82; refine hc1.mono ?_; clear hc1; rintro r w2 ⟨rfl, hw2⟩; cases hw2)
    | (go_at_call 82; refine hc2.mono ?_; clear hc2; rintro r w2 ⟨rfl, hw2⟩; cases hw2)
    | go_in)
  clear hmm
  have h0 := LO.start w qs na nb.toList hsz
  have hs0 : ((w.alloc (.map #[] 0)).alloc (.cells #[.string na] 9 (0, 0))).heap.size = w.heap.size + 2 := by simp
  go_loopw [12] (fun v wr => ∃ k, LO w qs na.toList nb.toList k v wr) (fun v wr => LM w qs na.toList nb.toList v wr)
  case atStart => exact ⟨0, h0⟩
  case round =>
    clear h0 hs0
    obtain ⟨k, hk, hm⟩ := LM.open hrel
    rcases hk.cases with ⟨g', off, cap, rfl⟩ | ⟨x, rest, g', off, cap, rfl, cx, hxs, hgs, hrc, hrq, hkq, hI⟩
    · have HS := Lib.hid (hk.stop ⟨_, _, rfl⟩)
      have HB : Hid (Below w.heap.size w wr) := Lib.hid (by obtain ⟨_, _, _, _, _, h⟩ := hk; exact h.below)
      clear hk hm hrel
      go_wp2
      go_ret
      exact ⟨⟨false, rfl, by simpa using HS.out⟩, HB.out⟩
    · have hbw : Below w.heap.size w wr := by obtain ⟨_, _, _, _, _, h⟩ := hk; exact h.below
      obtain ⟨ds, hds, hdz, hrow⟩ := HD.out.rows x hxs
      have cj : wr.cell? ⟨jb, 0, none⟩ = some (.map (some hd)) := (hbw.cell (p := ⟨jb, 0, none⟩) hjb).trans HJ.out
      have hlk : ∀ n, (Instr.lookup 59 (.map (some hd)) (.string x) false).run Try.prog (wr.drewN n) = .ok (fd (.string x)) (wr.drewN n) := fun n =>
        ((HD.out.map.below hbw HD.out.map.lt).at_block (W' := wr.drewN n) rfl).look keyed9 Try.underlying59 (zero67 _) (key9 hxs)
      have hdl : ds.length = (deads qs x.toList).length := by rw [← hds, List.length_map]
      have HM := Lib.hid hm
      have HI := Lib.hid hI
      have hdq : (deads qs x.toList).length ≤ qs.length := by unfold deads; rw [List.length_map]; exact List.length_filter_le _ _
      have hds0 : (ds.length : Int) ≤ 9000000000000 := by have := HQ.out; omega
      have hc1 : (1 : Int) ≤ (cap : Int) := by omega
      have hc2 : (0 : Int) < ((rest.length + 1 : Nat) : Int) := by omega
      clear hk hrel hm hI hdq
      rcases row_cases hrow with ⟨hfd, h0⟩ | ⟨gr, capr, hfd, _, hgr, _, _, hcr⟩
      · rw [hfd] at hlk
        obtain rfl : ds = [] := List.length_eq_zero_iff.1 h0
        have hd0 : (deads qs x.toList).length = 0 := by simpa using hdl.symm
        obtain ⟨hA, hB⟩ := LQ.closeAt HI.out hd0.symm
        have HA := Lib.hid hA
        have HB := Lib.hid hB
        clear hfd hrow hds hdz h0 hdl hds0 hd0 hA hB
        by_cases hcap : cap = 1
        · subst hcap
          obtain rfl : rest = [] := List.length_eq_zero_iff.1 (by omega)
          go_wp2
          go_quiet (fail)
          go_wp2
          refine wp_loop_rounds 1 ?_
          rw [rounds_succ]
          go_wp2
          exact LO.round (HA.out trivial) nq HM.out hkq
        · go_wp2
          go_quiet (fail)
          go_wp2
          refine wp_loop_rounds 1 ?_
          rw [rounds_succ]
          go_wp2
          exact LO.round HB.out nq HM.out hkq
      · rw [hfd] at hlk
        have hcl : ∀ W, Below w.heap.size w W → ∀ (j : Nat) (y : ByteArray), ds[j]? = some y → W.cell? ⟨gr, j, none⟩ = some (.string y) := fun W hW j y hy =>
          (hW.cell (p := ⟨gr, j, none⟩) hgr).trans (hcr j (.string y) (by rw [List.getElem?_map, hy]; rfl))
        have hde : ∀ (j : Nat) (y : ByteArray), ds[j]? = some y → (deads qs x.toList)[j]? = some y.toList ∧ y.size ≤ maxLen := fun j y hy => by
          refine ⟨?_, hdz y (List.mem_of_getElem? hy)⟩
          rw [← hds, List.getElem?_map, hy]; rfl
        have HCL := Lib.hid hcl
        have HDE := Lib.hid hde
        have HDL := Lib.hid hdl
        have hbw2 := fun n => below_drewN hbw n
        clear hcl hde hdl hcr hrow hdz hds hfd
        obtain ⟨i0, hi, hz0, hz1, hz2⟩ := info_parts info9
        go_wp2
        go_quiet (fail)
        go_wp2
        have hI0 := HI.out.drewN nq
        clear hlk cx cj
        go_loopw [12, 55] (fun v i wr2 => ∃ j : Nat, i = .int .i64 j ∧ j ≤ ds.length ∧ LQ w qs na.toList nb.toList k j x v wr2) (fun _ i _ => ds.length - (intOf i).toNat)
        case atStart => exact ⟨0, rfl, Nat.zero_le _, hI0⟩
        case round =>
          clear hI0
          obtain ⟨j, rfl, hj, hIj⟩ := hrel
          by_cases hlt : j < ds.length
          · obtain ⟨y, hy⟩ : ∃ y, ds[j]? = some y := ⟨_, List.getElem?_eq_getElem hlt⟩
            obtain ⟨hdy, hys⟩ := HDE.out j y hy
            obtain ⟨met, rest2, fm, c, g1, g2, g3, g4, g5, g6, g7, g8, g9, g10⟩ := hIj.opened hdy HQ.out
            have cy := HCL.out _ g3.below j y hy
            have hl1 := g4.look keyed9 Try.underlying129 (zero3 _) (key9 hys)
            rw [g6] at hl1
            have hrow := g3.row
            have hzw := g3.size
            have HIJ := Lib.hid hIj
            have HG := Lib.hid (show _ ∧ _ ∧ _ ∧ _ ∧ _ ∧ _ ∧ _ ∧ _ from ⟨g1, g2, g3, g5, g6, g8, hdy, hy⟩)
            clear hIj g1 g2 g3 g5 g6 g8 hdy hy
            by_cases hyb : (y.toList == nb.toList) = true
            · go_wp2
              go_ret
              obtain ⟨h1, _, h3, _, _, _, hdy, _⟩ := HG.out
              exact ⟨⟨true, rfl, by simpa using h1.hit (by rw [hdy, eq_of_beqB hyb])⟩, h3.below⟩
            · have hyb' : (y.toList == nb.toList) = false := by simpa using hyb
              clear hyb
              by_cases hc0 : c = 0
              · subst hc0
                have hm1 : (x :: rest2).length + 1 ≤ 3000000000000 := by simp; omega
                go_wp2_with (first
                  | (at_mapUpdate; (refine wpList_put _ rfl _ _ _ 129 rfl 9 3 keyed9 Try.underlying129 _ _ (.int .i64 0) fm rfl g4 g9 (.string y) (.int .i64 1) rfl rfl (key9 hys) ?_); intro W3 hM3 hg3; have hl3 := hM3.look keyed9 Try.underlying129 (zero3 _) (key9 hys); rw [upd_same] at hl3)
                  | (at_builtin; (refine wpList_append_nx _ rfl _ _ rfl rfl ((hrow.grown hg3 (fun r e => by have := Option.some.inj e; omega)).grown (World.grownBy_alloc _ _ none) (by simp)) (by have := hg3.size; simp; omega) W3.heap.size 0 y rfl (by simp) i0 hi hz0 hz1 hz2 hm1 ?_); rintro v' W4 hn4 ⟨g4', hg4, hg5⟩)
                  | go_in)
                obtain ⟨g1, g2, g3, g5, g6, g8, hdy, hy⟩ := HG.out
                exact ⟨⟨j + 1, by go_num, by omega, LQ.new g1 g2 g3 g5 (g8.1 rfl) (ne_of_beq_false hyb') hys hdy hM3 hg3 hn4 hg4 hg5⟩, by simp [intOf]; omega⟩
              · have hc1 : 1 ≤ c := by omega
                go_wp2_with (first
                  | (at_mapUpdate; (refine wpList_put _ rfl _ _ _ 129 rfl 9 3 keyed9 Try.underlying129 _ _ (.int .i64 0) fm rfl g4 g9 (.string y) (.int .i64 (c + 1)) rfl rfl (key9 hys) ?_); intro W3 hM3 hg3; have hl3 := hM3.look keyed9 Try.underlying129 (zero3 _) (key9 hys); rw [upd_same] at hl3)
                  | go_in)
                obtain ⟨g1, g2, g3, g5, g6, g8, hdy, hy⟩ := HG.out
                exact ⟨⟨j + 1, by go_num, by omega, LQ.old g1 g2 g3 g5 g6 g8 hc0 hdy hM3 hg3⟩, by simp [intOf]; omega⟩
          · obtain rfl : j = ds.length := by omega
            obtain ⟨g2, off2, n2, cap2, rfl, hnc⟩ := hIj.form
            obtain ⟨hA, hB⟩ := LQ.closeAt hIj HDL.out
            have HA := Lib.hid hA
            have HB := Lib.hid hB
            clear hIj hA hB
            have hc5 : (1 : Int) ≤ (cap2 : Int) := by omega
            by_cases hcap : cap2 = 1
            · subst hcap
              obtain rfl : n2 = 0 := by omega
              go_wp2
              exact LO.round (HA.out rfl) 0 HM.out hkq
            · go_wp2
              exact LO.round HB.out 0 HM.out hkq

set_option maxHeartbeats 1000000 in
/-- The program's leads (no condition but the sizes). -/
theorem pleads_any (base hd N jb : Nat) (fd : Value → Value) (qs : List Qc) (a b : ByteArray) (w : World) (hq : qs.length * 56 ≤ 140737488351232) (hj : w.cell? ⟨jb, 0, none⟩ = some (.map (some hd))) (hjb : jb < w.heap.size) (hD : DeadAt base w hd N fd qs) (ha : a.size ≤ maxLen) :
    Calls Try.prog 55 #[.pointer (some ⟨jb, 0, none⟩), .string a, .string b] w fun r w' => r = .returned (.bool (leadsB qs a.toList b.toList)) ∧ Below w.heap.size w w' := by
  cases h : (a.toList == b.toList) with
  | true => exact (pleads_same _ a b w h).mono fun r w' ⟨e1, e2⟩ => ⟨by rw [e1, leads_same h], e2 ▸ Below.refl _ _⟩
  | false =>
    cases ht : beginsB a.toList topicB with
    | true => exact (pleads_topic _ a b w h ht).mono fun r w' ⟨e1, e2⟩ => ⟨by rw [e1, leads_topic ht], e2 ▸ Below.refl _ _⟩
    | false =>
      cases h1 : beginsB a.toList queueB with
      | false => exact (pleads_no _ a b w false _ h ht h1 rfl rfl).mono fun r w' ⟨e1, e2⟩ => ⟨by rw [e1, leads_one h ht h1], e2 ▸ Below.refl _ _⟩
      | true =>
        cases h2 : beginsB b.toList queueB with
        | false => exact (pleads_no _ a b w true false h ht h1 h2 rfl).mono fun r w' ⟨e1, e2⟩ => ⟨by rw [e1, leads_two h ht h2], e2 ▸ Below.refl _ _⟩
        | true =>
          refine (pleads_way base hd N jb fd qs a b _ _ w hq hj hjb hD h ht h1 h2 rfl rfl (Nat.le_trans (cutA_size _ _) ha)).mono ?_
          rintro r w' ⟨⟨x, e1, e2⟩, e3⟩
          refine ⟨?_, e3⟩
          rw [e1, leads_way h ht h1 h2 (r := x)]
          rw [e2, cutA_yes (h := queueA) (by rw [queueA_list]; exact h1), cutA_yes (h := queueA) (by rw [queueA_list]; exact h2)]
          rfl

end Go.Proofs.Ytgincippgaecfaa.Au
