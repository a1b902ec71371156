/-
  owned: its walk: six lists in rows apart are their owner's. No condition but the lengths.
-/
import Derived.Test.YtgincippgaecfaaE4
import Derived.Test.YtgincippgaecfaaF2
import Derived.Deep.QuietTactic
import Derived.BigQuiet
namespace Go.Proofs.Ytgincippgaecfaa.Au
open Go Go.RowKit

theorem info33 : (Try.prog.info? 33).map (fun i => (i.zero, i.size, i.bytes)) = some (some (.slice none 0 0), 1, 24) := by kernel_rfl

theorem cell_gl {W : World} {gl : Nat} {vs : List Value} (h : W.heap[gl]? = some (.cells vs.toArray 33 (0, 0))) {k : Nat} {v : Value} (hv : vs[k]? = some v) : W.cell? ⟨gl, k, none⟩ = some v := by
  simp [World.cell?, h, hv]

set_option maxRecDepth 100000 in
set_option maxHeartbeats 40000000 in
theorem owned_any (base gl : Nat) (vs : List Value) (W : World) (hlen : vs.length = 6) (hgl : W.heap[gl]? = some (.cells vs.toArray 33 (0, 0)))
    (hv : ∀ (i : Nat) (v : Value), vs[i]? = some v → ∃ l, Ints base W v l ∧ l.length ≤ 1000) (ha : Apart vs) (hb : base ≤ W.heap.size) :
    Calls Try.prog 16 #[.slice (some ⟨gl, 0, none⟩) 6 6] W fun r w' => r = .returned (.bool true) ∧ Below base W w' := by
  have HPB : Hid (PB base gl vs W 0 0 W) := ⟨hgl, fun i v h => by obtain ⟨l, a, b⟩ := hv i v h; exact ⟨l, a, b, fun e => absurd e (Nat.not_lt_zero _), fun _ j' h => absurd h (Nat.not_lt_zero _)⟩, Below.refl _ _⟩
  have hgs := (Array.getElem?_eq_some_iff.1 hgl).1
  have HA := Lib.hid ha
  clear hgl hv ha
  go_enter Try.func16, Try.ntmps16
  go_wp2
  go_loopw [3] (fun i wr => ∃ k : Nat, i = .int .i64 k ∧ k ≤ 6 ∧ PB base gl vs W k 0 wr) (fun i _ => 6 - (intOf i).toNat)
  case atStart => exact ⟨0, rfl, by omega, HPB.out⟩
  case round =>
    obtain ⟨k, rfl, hk, hP⟩ := hrel
    by_cases hlt : k < 6
    · obtain ⟨v, hvk⟩ : ∃ v, vs[k]? = some v := ⟨_, List.getElem?_eq_getElem (by omega)⟩
      obtain ⟨l, hI, hl1, _, _⟩ := hP.2.1 k v hvk
      obtain ⟨p, c, rfl⟩ := Ints.shape hI
      have HP := Lib.hid hP
      have HV := Lib.hid hvk
      have HI := Lib.hid hI
      have hltk : (k : Int) < 6 := by omega
      clear hP hvk hI
      go_wp2
      go_loopw [4] (fun i wq => ∃ j : Nat, i = .int .i64 j ∧ j ≤ l.length ∧ PB base gl vs W k j wq) (fun i _ => l.length - (intOf i).toNat)
      case atStart => exact ⟨0, rfl, Nat.zero_le _, HP.out⟩
      case round =>
        obtain ⟨j, rfl, hj, hQ⟩ := hrel
        have cg := cell_gl hQ.1 HV.out
        by_cases hltj : j < l.length
        · obtain ⟨l2, hI2, _, _, _⟩ := hQ.2.1 k _ HV.out
          have hl2 := Ints.slice_len hI2
          rcases Ints.cases hI2 with ⟨h0, _⟩ | ⟨g, cap, h0, _, hgW, _, hcm, hcell, hfr⟩
          · simp only [Value.slice.injEq] at h0; omega
          · obtain ⟨rfl, _, rfl⟩ : p = some ⟨g, 0, none⟩ ∧ True ∧ c = cap := by
              simp only [Value.slice.injEq] at h0
              exact ⟨h0.1, trivial, h0.2.2⟩
            obtain ⟨y, hy⟩ : ∃ y, l2[j]? = some y := ⟨_, List.getElem?_eq_getElem (by omega)⟩
            have cj := hcell j y hy
            have fj := hfr j
            unfold maxLen at hcm
            have HQ := Lib.hid hQ
            clear hQ hI2 hcell hfr h0 hl2 hy
            go_wp2
            exact ⟨⟨j + 1, by go_num, by omega, HQ.out.store HA.out HV.out⟩, by simp [intOf]; omega⟩
        · obtain rfl : j = l.length := by omega
          have HN : Hid (PB base gl vs W (k + 1) 0 wr) := hQ.next HV.out (Nat.le_refl _)
          clear hQ
          go_wp2
          exact ⟨⟨k + 1, by go_num, by omega, HN.out⟩, by simp [intOf]; omega⟩
    · obtain rfl : k = 6 := by omega
      have e6 : ((6 : Nat) : Int) = 6 := rfl
      rw [e6]
      rw [← hlen] at hP
      have hgs2 : gl < wr.heap.size := Nat.lt_of_lt_of_le hgs hP.2.2.size
      have hbs : base ≤ wr.heap.size := Nat.le_trans hb hP.2.2.size
      have HQ : Hid (QR base gl vs W wr.heap.size 0 [] (.slice none 0 0) wr) := hP.grows hgs2 hbs
      obtain ⟨B2, hB2⟩ : ∃ b, wr.heap.size = b := ⟨_, rfl⟩
      rw [hB2] at HQ
      clear hP hB2 hgs2 hbs
      obtain ⟨i0, hi, hz0, hz1, hz2⟩ := info_parts info3'
      obtain ⟨i3, hj, hy0, hy1, hy2⟩ := info_parts info33
      go_wp2
      go_loopw [5, 6] (fun vg iv wq => ∃ (i : Nat) (gs : List Value), iv = .int .i64 i ∧ i ≤ 6 ∧ gs.length = 16 * i ∧ QR base gl vs W B2 i gs vg wq) (fun _ iv _ => 6 - (intOf iv).toNat)
      case atStart => exact ⟨0, [], rfl, by omega, rfl, HQ.out⟩
      case round =>
        obtain ⟨i, gs, rfl, hi6, hgl, hQ⟩ := hrel
        by_cases hlt : i < 6
        · obtain ⟨v, hvi⟩ : ∃ v, vs[i]? = some v := ⟨_, List.getElem?_eq_getElem (by omega)⟩
          have cg := cell_gl hQ.1 hvi
          obtain ⟨hQ2, n, hn, hX⟩ := hQ.take HA.out hvi
          have HQ2 := Lib.hid hQ2
          have HX := Lib.hid hX
          have hlti : (i : Int) < 6 := by omega
          clear hQ hQ2 hX hvi
          go_wp2
          go_loopw [5, 7, 8] (fun vg x kv wq => ∃ (kk nx : Nat) (gs : List Value), kv = .int .i64 kk ∧ kk ≤ 16 ∧ gs.length = 16 * i + kk ∧ nx ≤ 1000 + kk ∧ (0 < kk → 0 < nx) ∧ QR base gl vs W B2 (i + 1) gs vg wq ∧ QX base vs i nx x gs wq) (fun _ _ kv _ => 16 - (intOf kv).toNat)
          case atStart => exact ⟨0, n, gs, rfl, by omega, hgl, by omega, fun h => absurd h (Nat.lt_irrefl _), HQ2.out, HX.out⟩
          case round =>
            obtain ⟨kk, nx, gs2, rfl, hkk, hgl2, hnx, _, hQ3, hX3⟩ := hrel
            by_cases hltk : kk < 16
            · have hx1 : wr.ownsRow base 3 1 u7 nx ((List.replicate nx (mk i)).map (Value.int .i64)) := by simpa [Ints] using hX3.1
              have hbw : base ≤ wr.heap.size := Nat.le_trans hQ3.2.2.2.2.2.2.2 hQ3.2.2.2.2.2.1
              have hmx : nx + 1 ≤ maxLen := by unfold maxLen; omega
              have hmg : gs2.length + 1 ≤ maxLen := by unfold maxLen; omega
              have HQ3 := Lib.hid hQ3
              have HX3 := Lib.hid hX3
              clear hQ3 hX3
              go_wp2_with (first
                | (at_builtin; refine wpList_append_two _ rfl _ _ rfl base i0 hi hz0 hz1 hz2 _ nx _ rfl (World.ownsRow.alloc hx1 _) ⟨wr.heap.size, 0, none⟩ (-100 - (i : Int)) rfl (Boxed.new wr 3 _).cell hmx (by omega) (by simp; omega) ?_
                   intro x' w3 hown' hcase; obtain ⟨g', cap', rfl⟩ := ownsRow_succ hown'; obtain ⟨hQ4, hX4⟩ := HQ3.out.grow HX3.out hown' hcase
                   have hrow4 := hQ4.2.2.1; have hB4 := hQ4.2.2.2.2.2.1; have HQ4 := Lib.hid hQ4; have HX4 := Lib.hid hX4; clear hx1 hown' hcase hQ4 hX4)
                | (at_builtin; refine wpList_append_own _ rfl _ _ 36 rfl B2 33 i3 (.slice none 0 0) 1 24 Try.underlying36 hj hy0 hy1 hy2 rfl (by decide) _ gs2.length gs2 rfl (World.ownsRow.alloc hrow4 _) ⟨w3.heap.size, 0, none⟩ 1 1 [.slice (some ⟨g', 0, none⟩) (nx + 1) cap'] rfl rfl (cell_one_new _ _ _) (by simp [Value.oneCell']) hmg (by omega) (by simp; omega) ?_
                   intro vg' w4 hown4 hgrow4 _; obtain ⟨hQ5, hX5⟩ := HQ4.out.push HX4.out (by omega) (by omega) (by omega) hown4 hgrow4; clear hrow4 hown4 hgrow4)
                | go_in)
              exact ⟨⟨kk + 1, nx + 1, _, by go_num, by omega, by simp; omega, by omega, fun _ => Nat.succ_pos _, hQ5, hX5⟩, by simp [intOf]; omega⟩
            · obtain rfl : kk = 16 := by omega
              have e16 : ((16 : Nat) : Int) = 16 := rfl
              rw [e16]
              have HQ3 := Lib.hid hQ3
              clear hQ3 hX3
              go_wp2
              exact ⟨⟨i + 1, gs2, by go_num, by omega, by omega, HQ3.out⟩, by simp [intOf]; omega⟩
        · obtain rfl : i = 6 := by omega
          rw [e6]
          obtain ⟨gv, cv, rfl⟩ : ∃ gv cv, u5 = .slice (some ⟨gv, 0, none⟩) gs.length cv := by
            rcases hQ.2.2.1.2 with ⟨_, h0⟩ | ⟨gv, cv, _, h0, _⟩
            · omega
            · exact ⟨gv, cv, h0⟩
          have hcv := fun (t : Nat) (v : Value) (h : gs[t]? = some v) => (World.ownsRow.cellAt hQ.2.2.1 t (by have := (List.getElem?_eq_some_iff.1 h).1; omega)).trans h
          have HCV : Hid (∀ (t : Nat) (v : Value), gs[t]? = some v → wr.cell? ⟨gv, t, none⟩ = some v) := hcv
          have HGR : Hid (Gr wr gs) := hQ.2.2.2.1
          have HBF : Hid (Below base W wr) := hQ.2.2.2.2.1
          rename World => w5
          have e96 : gs.length = 96 := by omega
          rw [e96]
          clear hQ hcv
          go_wp2
          go_loopw [9] (fun tv wq => ∃ t : Nat, tv = .int .i64 t ∧ t ≤ 96 ∧ ∃ q, wq = w5.drewN q) (fun tv _ => 96 - (intOf tv).toNat)
          case atStart => exact ⟨0, rfl, by omega, 0, rfl⟩
          case round =>
            obtain ⟨t, rfl, ht, q1, rfl⟩ := hrel
            by_cases hltt : t < 96
            · obtain ⟨u, hu⟩ : ∃ u, gs[t]? = some u := ⟨_, List.getElem?_eq_getElem (by omega)⟩
              obtain ⟨gt, nt, ct, rfl, hnt, cur, hh, hcells⟩ := HGR.out t u hu
              have cu : ∀ q, (w5.drewN q).cell? ⟨gv, t, none⟩ = some (.slice (some ⟨gt, 0, none⟩) nt ct) := fun q => HCV.out t _ hu
              have cu0 : w5.cell? ⟨gv, t, none⟩ = some (.slice (some ⟨gt, 0, none⟩) nt ct) := HCV.out t _ hu
              have HC : Hid (∀ j, j < nt → w5.cell? ⟨gt, j, none⟩ = some (.int .i64 (mk (t / 16)))) := fun j hj => by
                have := hcells j hj
                simp [World.cell?, hh, this]
              have hltz : (t : Int) < 96 := by omega
              clear hu hh hcells
              go_wp2
              go_loopw [10] (fun jv wq => ∃ j : Nat, jv = .int .i64 j ∧ j ≤ nt ∧ ∃ q, wq = w5.drewN q) (fun jv _ => nt - (intOf jv).toNat)
              case atStart => exact ⟨0, rfl, Nat.zero_le _, q1, rfl⟩
              case round =>
                obtain ⟨j, rfl, hj2, q2, rfl⟩ := hrel
                by_cases hltj : j < nt
                · have cj0 : w5.cell? ⟨gt, j, none⟩ = some (.int .i64 (mk (t / 16))) := HC.out j hltj
                  have ed : (t : Int).tdiv 16 = ((t / 16 : Nat) : Int) := by
                    rw [Int.tdiv_eq_ediv_of_nonneg (by omega)]; omega
                  unfold mk at cj0
                  go_wp2
                  exact ⟨⟨j + 1, by go_num, by omega, _, rfl⟩, by simp [intOf]; omega⟩
                · obtain rfl : j = nt := by omega
                  go_wp2
                  exact ⟨⟨t + 1, by go_num, by omega, q2, rfl⟩, by simp [intOf]; omega⟩
            · obtain rfl : t = 96 := by omega
              go_wp2
              go_ret
              exact ⟨rfl, below_drewN HBF.out _⟩

end Go.Proofs.Ytgincippgaecfaa.Au
