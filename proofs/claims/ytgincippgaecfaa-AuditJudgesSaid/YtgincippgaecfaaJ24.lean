/-
  The law of Judge: its walk. No condition but the sizes.
-/
import Derived.Test.YtgincippgaecfaaJ23
import Derived.Test.YtgincippgaecfaaX1
import Derived.Test.YtgincippgaecfaaA1
namespace Go.Proofs.Ytgincippgaecfaa.Au
open Go Go.RowKit

set_option maxRecDepth 100000 in
set_option maxHeartbeats 16000000 in
theorem judges_some (ad : Addr) (cap0 : Nat) (sv so : Value) (qs : List Qc) (es eo : List Ent) (W : World) (hQ : QsAt W.heap.size W (.slice (some ad) qs.length cap0) qs) (hc : ∀ (j : Nat) (u : Value), (cellsQ qs)[j]? = some u → W.cell? (ad.add j) = some u) (h : HistAt W.heap.size W sv es) (ho : HistAt W.heap.size W so eo) (hq : qs.length * 56 ≤ 140737488351232) (hreach : es.length * 56 ≤ 140737488351232)
    (hw : ∀ e ∈ es, e.fineQ) (hwo : ∀ e ∈ eo, e.fineQ) (hz : ∀ c ∈ qs, c.fine) :
    Calls Try.prog 3 #[.slice (some ad) qs.length cap0, sv, so] W fun e W' => e = .returned (.bool true) ∧ Below W.heap.size W W' := by
  obtain ⟨i0, hi0, hz0, hz1, hz2⟩ := info_parts info27
  obtain ⟨N1, V1, E1, hA1⟩ := judgeAns_form qs es
  obtain ⟨N2, V2, E2, hA2⟩ := judgeAns_form qs eo
  have hL := fun (W1 : World) (hb : Below W.heap.size W W1) => lent_any W.heap.size sv es W1 hreach (h.below hb)
  have hR1 := fun (W1 : World) (hb : Below W.heap.size W W1) => rjudge_any W.heap.size W.heap.size _ sv qs es W1 hq hb.size (hQ.below hb) (h.below hb) hb.size
  have hR2 := fun (W1 : World) (hb : Below W.heap.size W W1) => rjudge_any W.heap.size W.heap.size _ so qs eo W1 hq hb.size (hQ.below hb) (ho.below hb) hb.size
  have hP2 := fun (W1 : World) (hb : Below W.heap.size W W1) => pjudge_any W.heap.size _ so qs eo W1 hq (hQ.below hb) (ho.below hb) hb.size hwo hz
  have hP1 := fun (n : Nat) (W1 : World) (v x : Value) (hn : n ≤ W1.heap.size) (h1 : QsAt n W1 v qs) (h2 : HistAt n W1 x es) => pjudge_any n v x qs es W1 hq h1 h2 hn hw hz
  have hK := fun (B g cap : Nat) (W1 : World) (hb : Below W.heap.size W W1) (hB : W.heap.size ≤ B) => kept_own W.heap.size B g cap sv es W1 hB (by omega) (h.below hb)
  rw [hA1] at hR1
  rw [hA2] at hR2 hP2
  simp only [hA1] at hP1
  have HQ := Lib.hid hQ
  have hql : qs.length ≤ 2513169434843 := by omega
  clear hQ h ho hw hwo hz hq hA1 hA2
  go_enter Try.func3, Try.ntmps3
  go_wp2_with (first
    | (go_at_call 8; refine Aw.awake.mono ?_; rintro e w1 ⟨rfl, hb1⟩)
    | (go_at_call 9; refine (hL _ hb1).mono ?_; clear hL; rintro e w2 ⟨g, cap, rfl, hown, hb2⟩
       have hx2 := Lib.hid (Lent.hist hown)
       have hg2 := (FromAt.of_own (by simp) hown).2.2.2.2
       have hg1 := (FromAt.of_own (by simp) hown).2.2.2.1
       have HOwn := Lib.hid hown
       have hB2 := hb1.trans (hb2.mono hb1.size)
       clear hown)
    | (at_builtin; refine wpList_append_own _ rfl (.const (.slice none 0 0)) (.tmp 32) _ rfl w2.heap.size 27 i0 _ 5 56 Try.underlying22 hi0 hz0 hz1 hz2 rfl (by decide) (.slice none 0 0) 0 [] rfl (World.ownsRow_nil _ _ _ _) ad qs.length cap0 (cellsQ qs) rfl (cellsQ_length qs) (fun j u hu => (hB2.cell (p := ad.add j) (World.block_lt_of_cell? _ _ (hc j u hu))).trans (hc j u hu)) (cellsQ_one qs) (by unfold maxLen; omega) (by omega) (Nat.le_refl _) ?_; intro v1 w3 hown1 hgr1 _; have hb3 : Below w2.heap.size w2 w3 := (Below.refl _ _).grown hgr1 (Nat.le_refl _) (by simp [Value.ownBlock]); clear hc hgr1; rw [List.nil_append, Nat.zero_add] at hown1)
    | (at_builtin; refine wpList_append_own _ rfl (.tmp 33) (.tmp 35) _ rfl w2.heap.size 27 i0 _ 5 56 Try.underlying22 hi0 hz0 hz1 hz2 rfl (by decide) v1 qs.length (cellsQ qs) rfl (hown1.alloc _) ⟨w3.heap.size, 0, none⟩ 1 1 (cellsQ [behindQ]) rfl (cellsQ_length _) (cells_new w3 (cellsQ [behindQ]) 27) (cellsQ_one _) (by unfold maxLen; omega) (by omega) (by have := hb3.size; rw [World.size_alloc]; omega) ?_
       intro v2 w4 hown2 hgr2 _
       have hb4 : Below w2.heap.size w2 w4 := (hb3.alloc hb3.size _).grown hgr2 (by have := hb3.size; rw [World.size_alloc]; omega) fun k hk => (World.ownsRow.lt hown1 k hk).1
       rw [← cellsQ_append] at hown2
       obtain ⟨gq, capq, rfl, _⟩ := hown2.form (Nat.succ_pos _)
       obtain ⟨hq4, _, hcq, hcq2, hgq1, hgq2⟩ := rowQ hown2
       unfold maxLen at hcq2
       have HOQ := Lib.hid hown2
       have HQ4 := Lib.hid hq4
       have hB4 := hB2.trans (hb4.mono hB2.size)
       have hcall1 := hP1 w4.heap.size w4 _ _ (Nat.le_refl _) hq4 ((hx2.out.below hb4).mono hb4.size)
       clear hown2 hgr2 hown1 hb3 hq4)
    | (go_at_call 10; refine hcall1.mono ?_; clear hcall1; rintro e w5 ⟨rfl, hb5⟩
       have hB5 := hB4.trans (hb5.mono hB4.size)
       have hcall2 := hP2 w5 hB5
       clear hP2)
    | (go_at_call 10; refine hcall2.mono ?_; clear hcall2; rintro e w6 ⟨rfl, hb6⟩
       have hb46 := hb5.trans (hb6.mono hb5.size)
       have hB6 := hB5.trans (hb6.mono hB5.size)
       have hcall3 := hP1 w4.heap.size w6 _ _ hb46.size (HQ4.out.below hb46) (((hx2.out.below hb4).mono hb4.size).below hb46)
       clear hP1)
    | (go_at_call 10; refine hcall3.mono ?_; clear hcall3; rintro e w7 ⟨rfl, hb7⟩
       have hb47 := hb46.trans (hb7.mono hb46.size)
       have hB7 := hB6.trans (hb7.mono hB6.size)
       have hb27 := hb4.trans (hb47.mono hb4.size)
       have hkept := hK w1.heap.size g cap w7 hB7 hb1.size (ownsRow_below hb27 HOwn.out (fun g' e => by simp [Value.ownBlock] at e; omega)))
    | (go_at_call 11; refine hkept.mono ?_; clear hkept; rintro e w8 ⟨rfl, hg8⟩
       have hB8 : Below W.heap.size W w8 := hB7.grown hg8 hB7.size (fun k e => by have := Option.some.inj e; have := hb1.size; omega)
       have hown8 := ownsRow_kept (ownsRow_belowJ HOQ.out hb47 fun r hr => by simp [Value.ownBlock] at hr; omega) hg8 fun r e hr => by have := Option.some.inj e; simp [Value.ownBlock] at hr; omega
       obtain ⟨hq8, hbn8, _, _, _, hgq8⟩ := rowQ hown8
       have HQ8 := Lib.hid hq8
       have HB8 := Lib.hid hB8
       have HR := Lib.hid (And.intro hR1 hR2)
       clear hq8 hown8 hR1 hR2)
    | go_in)
  have HBN := Lib.hid hbn8
  clear hbn8 hcq2
  have hqi : (qs.length : Int) ≤ 2513169434843 := by omega
  have hci : ((qs.length : Int) + 1) ≤ (capq : Int) := by omega
  go_loopw [19, 20] (fun good i wr => ∃ k : Nat, good = .bool true ∧ i = .int .i64 k ∧ k ≤ qs.length ∧ Below w8.heap.size w8 wr) (fun _ i _ => qs.length - (intOf i).toNat)
  case atStart => exact ⟨0, rfl, rfl, Nat.zero_le _, Below.refl _ _⟩
  case round =>
    obtain ⟨k, rfl, rfl, hk, hbw⟩ := hrel
    by_cases hlt : k < qs.length
    · obtain ⟨c, hcq⟩ : ∃ c, qs[k]? = some c := ⟨_, List.getElem?_eq_getElem hlt⟩
      obtain ⟨b1, o1, e1, _, q1⟩ := (HQ8.out.below hbw).at_ hcq
      obtain ⟨b2, o2, e2, _, q2⟩ := (HQ.out.below (HB8.out.trans (hbw.mono HB8.out.size))).at_ hcq
      simp only [Option.some.injEq, Addr.mk.injEq] at e1 e2
      obtain ⟨rfl, rfl, _⟩ := e1
      subst e2
      obtain ⟨c0, c1, c2, c3, c4⟩ := q1
      obtain ⟨d0, d1, d2, d3, d4⟩ := q2
      simp only [Nat.zero_add] at c0 c1 c2 c3 c4
      have hk1 : (k : Int) < (qs.length : Int) := by omega
      have hk2 : (k : Int) < (qs.length : Int) + 1 := by omega
      clear hcq
      go_wp2
      go_quiet (fail)
      go_wp2
      exact ⟨⟨k + 1, rfl, by go_num, by omega, below_drewN hbw _⟩, by simp [intOf]; omega⟩
    · obtain rfl : k = qs.length := by omega
      have hBr := HB8.out.trans (hbw.mono HB8.out.size)
      have hbn := (hbw.cell (p := ⟨gq, qs.length * 5, none⟩) hgq8).trans HBN.out
      have HGQ := Nat.lt_of_lt_of_le hgq8 hbw.size
      have HBW := Lib.hid hbw
      clear hbw HQ HQ4 HOQ HOwn HQ8 hx2
      have hr1 := HR.out.1 _ hBr
      go_wp2_with (first
        | (go_at_call 12; refine hr1.mono ?_; clear hr1; rintro e w9 ⟨rfl, hb9⟩
           have hB9 := hBr.trans (hb9.mono hBr.size)
           have hbn9 := (hb9.cell (p := ⟨gq, qs.length * 5, none⟩) HGQ).trans hbn
           have HGQ9 := Nat.lt_of_lt_of_le HGQ hb9.size
           have hr2 := HR.out.2 _ hB9
           clear hbn)
        | (go_at_call 12; refine hr2.mono ?_; clear hr2; rintro e w10 ⟨rfl, hb10⟩
           have hB10 := hB9.trans (hb10.mono hB9.size)
           have hbn10 := (hb10.cell (p := ⟨gq, qs.length * 5, none⟩) HGQ9).trans hbn9
           have HB10 := Lib.hid hB10
           clear hbn9 hBr hB9 hB10)
        | go_in)
      go_ret
      exact ⟨rfl, HB10.out⟩

set_option maxRecDepth 100000 in
set_option maxHeartbeats 16000000 in
theorem judges_none (cap0 : Nat) (sv so : Value) (es eo : List Ent) (W : World) (hQ : QsAt W.heap.size W (.slice none ([] : List Qc).length cap0) ([] : List Qc)) (h : HistAt W.heap.size W sv es) (ho : HistAt W.heap.size W so eo) (hq : ([] : List Qc).length * 56 ≤ 140737488351232) (hreach : es.length * 56 ≤ 140737488351232)
    (hw : ∀ e ∈ es, e.fineQ) (hwo : ∀ e ∈ eo, e.fineQ) (hz : ∀ c ∈ ([] : List Qc), c.fine) :
    Calls Try.prog 3 #[.slice none ([] : List Qc).length cap0, sv, so] W fun e W' => e = .returned (.bool true) ∧ Below W.heap.size W W' := by
  obtain ⟨i0, hi0, hz0, hz1, hz2⟩ := info_parts info27
  obtain ⟨N1, V1, E1, hA1⟩ := judgeAns_form ([] : List Qc) es
  obtain ⟨N2, V2, E2, hA2⟩ := judgeAns_form ([] : List Qc) eo
  have hL := fun (W1 : World) (hb : Below W.heap.size W W1) => lent_any W.heap.size sv es W1 hreach (h.below hb)
  have hR1 := fun (W1 : World) (hb : Below W.heap.size W W1) => rjudge_any W.heap.size W.heap.size _ sv ([] : List Qc) es W1 hq hb.size (hQ.below hb) (h.below hb) hb.size
  have hR2 := fun (W1 : World) (hb : Below W.heap.size W W1) => rjudge_any W.heap.size W.heap.size _ so ([] : List Qc) eo W1 hq hb.size (hQ.below hb) (ho.below hb) hb.size
  have hP2 := fun (W1 : World) (hb : Below W.heap.size W W1) => pjudge_any W.heap.size _ so ([] : List Qc) eo W1 hq (hQ.below hb) (ho.below hb) hb.size hwo hz
  have hP1 := fun (n : Nat) (W1 : World) (v x : Value) (hn : n ≤ W1.heap.size) (h1 : QsAt n W1 v ([] : List Qc)) (h2 : HistAt n W1 x es) => pjudge_any n v x ([] : List Qc) es W1 hq h1 h2 hn hw hz
  have hK := fun (B g cap : Nat) (W1 : World) (hb : Below W.heap.size W W1) (hB : W.heap.size ≤ B) => kept_own W.heap.size B g cap sv es W1 hB (by omega) (h.below hb)
  rw [hA1] at hR1
  rw [hA2] at hR2 hP2
  simp only [hA1] at hP1
  have HQ := Lib.hid hQ
  have hql : ([] : List Qc).length ≤ 2513169434843 := by omega
  clear hQ h ho hw hwo hz hq hA1 hA2
  go_enter Try.func3, Try.ntmps3
  go_wp2_with (first
    | (go_at_call 8; refine Aw.awake.mono ?_; rintro e w1 ⟨rfl, hb1⟩)
    | (go_at_call 9; refine (hL _ hb1).mono ?_; clear hL; rintro e w2 ⟨g, cap, rfl, hown, hb2⟩
       have hx2 := Lib.hid (Lent.hist hown)
       have hg2 := (FromAt.of_own (by simp) hown).2.2.2.2
       have hg1 := (FromAt.of_own (by simp) hown).2.2.2.1
       have HOwn := Lib.hid hown
       have hB2 := hb1.trans (hb2.mono hb1.size)
       clear hown)
    | (at_builtin; have hown1 := World.ownsRow_nil w2 w2.heap.size 27 5; have hb3 := Below.refl w2.heap.size w2; refine wpList_append_own _ rfl (.tmp 33) (.tmp 35) _ rfl w2.heap.size 27 i0 _ 5 56 Try.underlying22 hi0 hz0 hz1 hz2 rfl (by decide) (.slice none 0 0) ([] : List Qc).length (cellsQ ([] : List Qc)) rfl (hown1.alloc _) ⟨w2.heap.size, 0, none⟩ 1 1 (cellsQ [behindQ]) rfl (cellsQ_length _) (cells_new w2 (cellsQ [behindQ]) 27) (cellsQ_one _) (by unfold maxLen; omega) (by omega) (by have := hb3.size; rw [World.size_alloc]; omega) ?_
       intro v2 w4 hown2 hgr2 _
       have hb4 : Below w2.heap.size w2 w4 := (hb3.alloc hb3.size _).grown hgr2 (by have := hb3.size; rw [World.size_alloc]; omega) fun k hk => (World.ownsRow.lt hown1 k hk).1
       rw [← cellsQ_append] at hown2
       obtain ⟨gq, capq, rfl, _⟩ := hown2.form (Nat.succ_pos _)
       obtain ⟨hq4, _, hcq, hcq2, hgq1, hgq2⟩ := rowQ hown2
       unfold maxLen at hcq2
       have HOQ := Lib.hid hown2
       have HQ4 := Lib.hid hq4
       have hB4 := hB2.trans (hb4.mono hB2.size)
       have hcall1 := hP1 w4.heap.size w4 _ _ (Nat.le_refl _) hq4 ((hx2.out.below hb4).mono hb4.size)
       clear hown2 hgr2 hown1 hb3 hq4)
    | (go_at_call 10; refine hcall1.mono ?_; clear hcall1; rintro e w5 ⟨rfl, hb5⟩
       have hB5 := hB4.trans (hb5.mono hB4.size)
       have hcall2 := hP2 w5 hB5
       clear hP2)
    | (go_at_call 10; refine hcall2.mono ?_; clear hcall2; rintro e w6 ⟨rfl, hb6⟩
       have hb46 := hb5.trans (hb6.mono hb5.size)
       have hB6 := hB5.trans (hb6.mono hB5.size)
       have hcall3 := hP1 w4.heap.size w6 _ _ hb46.size (HQ4.out.below hb46) (((hx2.out.below hb4).mono hb4.size).below hb46)
       clear hP1)
    | (go_at_call 10; refine hcall3.mono ?_; clear hcall3; rintro e w7 ⟨rfl, hb7⟩
       have hb47 := hb46.trans (hb7.mono hb46.size)
       have hB7 := hB6.trans (hb7.mono hB6.size)
       have hb27 := hb4.trans (hb47.mono hb4.size)
       have hkept := hK w1.heap.size g cap w7 hB7 hb1.size (ownsRow_below hb27 HOwn.out (fun g' e => by simp [Value.ownBlock] at e; omega)))
    | (go_at_call 11; refine hkept.mono ?_; clear hkept; rintro e w8 ⟨rfl, hg8⟩
       have hB8 : Below W.heap.size W w8 := hB7.grown hg8 hB7.size (fun k e => by have := Option.some.inj e; have := hb1.size; omega)
       have hown8 := ownsRow_kept (ownsRow_belowJ HOQ.out hb47 fun r hr => by simp [Value.ownBlock] at hr; omega) hg8 fun r e hr => by have := Option.some.inj e; simp [Value.ownBlock] at hr; omega
       obtain ⟨hq8, hbn8, _, _, _, hgq8⟩ := rowQ hown8
       have HQ8 := Lib.hid hq8
       have HB8 := Lib.hid hB8
       have HR := Lib.hid (And.intro hR1 hR2)
       clear hq8 hown8 hR1 hR2)
    | go_in)
  have HBN := Lib.hid hbn8
  clear hbn8 hcq2
  have hqi : (([] : List Qc).length : Int) ≤ 2513169434843 := by omega
  have hci : (1 : Int) ≤ (capq : Int) := by simp at hcq; omega
  refine wp_loop_rounds 1 ?_
  rw [rounds_succ]
  have hbw := Below.refl w8.heap.size w8
  have hBr := HB8.out.trans (hbw.mono HB8.out.size)
  have hbn := (hbw.cell (p := ⟨gq, ([] : List Qc).length * 5, none⟩) hgq8).trans HBN.out
  have HGQ := Nat.lt_of_lt_of_le hgq8 hbw.size
  have HBW := Lib.hid hbw
  clear hbw HQ HQ4 HOQ HOwn HQ8 hx2
  have hr1 := HR.out.1 _ hBr
  go_wp2_with (first
    | (go_at_call 12; refine hr1.mono ?_; clear hr1; rintro e w9 ⟨rfl, hb9⟩
       have hB9 := hBr.trans (hb9.mono hBr.size)
       have hbn9 := (hb9.cell (p := ⟨gq, ([] : List Qc).length * 5, none⟩) HGQ).trans hbn
       have HGQ9 := Nat.lt_of_lt_of_le HGQ hb9.size
       have hr2 := HR.out.2 _ hB9
       clear hbn)
    | (go_at_call 12; refine hr2.mono ?_; clear hr2; rintro e w10 ⟨rfl, hb10⟩
       have hB10 := hB9.trans (hb10.mono hB9.size)
       have hbn10 := (hb10.cell (p := ⟨gq, ([] : List Qc).length * 5, none⟩) HGQ9).trans hbn9; simp only [List.length_nil, Nat.zero_mul] at hbn10
       have HB10 := Lib.hid hB10
       clear hbn9 hBr hB9 hB10)
    | go_in)
  go_ret
  exact ⟨rfl, HB10.out⟩

/-- The law of Judge (no condition but the sizes). -/
theorem judges_any (a : Option Addr) (cap0 : Nat) (sv so : Value) (qs : List Qc) (es eo : List Ent) (W : World) (hQ : QsAt W.heap.size W (.slice a qs.length cap0) qs) (h : HistAt W.heap.size W sv es) (ho : HistAt W.heap.size W so eo) (hq : qs.length * 56 ≤ 140737488351232) (hreach : es.length * 56 ≤ 140737488351232)
    (hw : ∀ e ∈ es, e.fineQ) (hwo : ∀ e ∈ eo, e.fineQ) (hz : ∀ c ∈ qs, c.fine) :
    Calls Try.prog 3 #[.slice a qs.length cap0, sv, so] W fun e W' => e = .returned (.bool true) ∧ Below W.heap.size W W' := by
  rcases hQ.cells with ⟨rfl, rfl⟩ | ⟨ad, rfl, hc⟩
  · exact judges_none cap0 sv so es eo W hQ h ho hq hreach hw hwo hz
  · exact judges_some ad cap0 sv so qs es eo W hQ hc h ho hq hreach hw hwo hz

end Go.Proofs.Ytgincippgaecfaa.Au
