/-
  The reference's Left: its walk. No condition but the reach.
-/
import Derived.Test.YtgincippgaecfaaF2
namespace Go.Proofs.Ytgincippgaecfaa.Au
open Go Go.RowKit

theorem drop_all {W : World} {b off : Nat} {es : List Ent} (hc : ∀ i e, es[i]? = some e → EntAt W b (off + i * 6) e) (k : Nat) : ∀ i e, (es.drop k)[i]? = some e → EntAt W b (off + k * 6 + i * 6) e := fun i e he => by
  rw [List.getElem?_drop] at he
  have := hc (k + i) e he
  rwa [show off + (k + i) * 6 = off + k * 6 + i * 6 by omega] at this

/-- Between two rounds of the inner loop: what is counted, and what is still to come. -/
def TI (es : List Ent) (q : List UInt8) (m : Int) (j : Nat) (t g : Int) : Prop := t + tkL q m (es.drop j) = tkL q m es ∧ g + gtL m (es.drop j) = gtL m es
theorem TI.start (es : List Ent) (q : List UInt8) (m : Int) : TI es q m 0 0 0 := ⟨by simp, by simp⟩
theorem drop_at {es : List Ent} {j : Nat} {e : Ent} (he : es[j]? = some e) : es.drop j = e :: es.drop (j + 1) := by
  obtain ⟨h, rfl⟩ := List.getElem?_eq_some_iff.1 he
  exact List.drop_eq_getElem_cons h
theorem TI.none {es : List Ent} {q : List UInt8} {m : Int} {j : Nat} {t g : Int} {e : Ent} (h : TI es q m j t g) (he : es[j]? = some e) (h1 : (takE q m e && (e.dur || !(es.drop j).any crashE)) = false) (h2 : gotE m e = false) : TI es q m (j + 1) t g := by
  obtain ⟨a, b⟩ := h
  rw [drop_at he] at a b h1
  simp only [tkL, gtL, h1, h2] at a b
  exact ⟨by simpa using a, by simpa using b⟩
theorem TI.got {es : List Ent} {q : List UInt8} {m : Int} {j : Nat} {t g : Int} {e : Ent} (h : TI es q m j t g) (he : es[j]? = some e) (h1 : takE q m e = false) (h2 : gotE m e = true) : TI es q m (j + 1) t (g + 1) := by
  obtain ⟨a, b⟩ := h
  rw [drop_at he] at a b
  simp only [tkL, gtL, h1, h2, Bool.false_and] at a b
  simp at a b
  exact ⟨a, by omega⟩
theorem TI.take {es : List Ent} {q : List UInt8} {m : Int} {j : Nat} {t g : Int} {e : Ent} (h : TI es q m j t g) (he : es[j]? = some e) (h1 : (takE q m e && (e.dur || !(es.drop j).any crashE)) = true) (h2 : gotE m e = false) : TI es q m (j + 1) (t + 1) g := by
  obtain ⟨a, b⟩ := h
  rw [drop_at he] at a b h1
  simp only [tkL, gtL, h1, h2] at a b
  simp at a b
  exact ⟨by omega, b⟩
theorem TI.bound {es : List Ent} {q : List UInt8} {m : Int} {j : Nat} {t g : Int} (h : TI es q m j t g) (hl : es.length ≤ 400) : -400 ≤ t ∧ t ≤ 400 ∧ -400 ≤ g ∧ g ≤ 400 := by
  have := tkL_nonneg q m es
  have := tkL_nonneg q m (es.drop j)
  have := gtL_nonneg m es
  have := gtL_nonneg m (es.drop j)
  have : (es.drop j).length ≤ es.length := by simp
  obtain ⟨a, b⟩ := h
  omega
theorem TI.end {es : List Ent} {q : List UInt8} {m : Int} {t g : Int} (h : TI es q m es.length t g) : (decide (g < t)) = decide (0 < moreL q es m) := by
  obtain ⟨a, b⟩ := h
  simp [tkL, gtL] at a b
  rw [moreL_eq, a, b]
  congr 1
  exact propext ⟨fun h => by omega, fun h => by omega⟩

set_option maxRecDepth 100000 in
set_option maxHeartbeats 40000000 in
theorem rleft_good (n : Nat) (b off cap : Nat) (es : List Ent) (q : ByteArray) (w : World) (hb : b < n) (hn : n ≤ w.heap.size) (hlen : es.length ≤ 400)
    (hcap : es.length ≤ cap) (hc : ∀ i e, es[i]? = some e → EntAt w b (off + i * 6) e) (hh : Hid (histE es = 0)) :
    Calls Try.prog 14 #[.string q, .slice (some ⟨b, off, none⟩) es.length cap] w (LeftAns w es q) := by
  have hH : HistAt n w (.slice (some ⟨b, off, none⟩) es.length cap) es := .inr ⟨b, off, cap, rfl, hb, hc⟩
  have HCf : ∀ W, Below w.heap.size w W → Hid (∀ i e, es[i]? = some e → EntAt W b (off + i * 6) e) := fun W h i e he => (hc i e he).below h (by omega)
  clear hc
  go_enter Try.func14, Try.ntmps14
  go_wp2_with (go_at_call 22; refine (history_any n _ es _ hH hn).mono ?_; rintro r w1 ⟨rfl, hb1⟩; rw [hh.out])
  clear hH
  go_loopw [9, 10] (fun vy i wr => ∃ (k : Nat) (my : List Int), i = .int .i64 k ∧ k ≤ es.length ∧ MayL (es.take k) q.toList my ∧ my.length ≤ k ∧ Ints w.heap.size wr vy my ∧ Below w.heap.size w wr) (fun _ i _ => es.length - (intOf i).toNat)
  case atStart => exact ⟨0, [], rfl, Nat.zero_le _, by simpa using MayL.none _, Nat.le_refl _, Ints.nil _ _, hb1⟩
  case round =>
    obtain ⟨k, my, rfl, hk, hmay, hmyl, hrow, hbw⟩ := hrel
    have hc := (HCf wr hbw).out
    by_cases hlt : k < es.length
    · obtain ⟨e, he⟩ : ∃ e, es[k]? = some e := ⟨_, List.getElem?_eq_getElem hlt⟩
      obtain ⟨c0, c1, c2, c3, c4, c5⟩ := hc k e he
      have hr := rising_any w.heap.size _ my e.msg wr (by omega) hrow
      have HE := Lib.hid he
      have HM := Lib.hid hmay
      clear he hmay hc
      go_wp2_with (go_at_call 26; refine hr.mono ?_; clear hr; rintro r w3 ⟨v3, rfl, hi3, hb3⟩)
      · have h1 : e.kind = 1 := by assumption
        have hm' := HM.out.rise HE.out (lsent_yes h1 (by assumption))
        have hl' := riseL_length HM.out.1 e.msg
        exact ⟨⟨k + 1, _, by go_num, by omega, hm', by omega, Ints.base hi3 hbw.size, hbw.trans (hb3.mono hbw.size)⟩, by simp [intOf]; omega⟩
      · exact ⟨⟨k + 1, my, by go_num, by omega, HM.out.skip HE.out (lsent_no_q (by assumption)), by omega, hrow, hbw⟩, by simp [intOf]; omega⟩
      · exact ⟨⟨k + 1, my, by go_num, by omega, HM.out.skip HE.out (lsent_no_k (by assumption)), by omega, hrow, hbw⟩, by simp [intOf]; omega⟩
    · obtain rfl : k = es.length := by omega
      rw [List.take_length] at hmay
      obtain ⟨p, c9, rfl⟩ := hrow.shape
      have HM := Lib.hid hmay
      have HR := Lib.hid hrow
      have HCw : ∀ W, Below wr.heap.size wr W → Hid (∀ i e, es[i]? = some e → EntAt W b (off + i * 6) e) := fun W h => HCf W (hbw.trans (h.mono hbw.size))
      have HBw := Lib.hid hbw
      have hbs : b < wr.heap.size := Nat.lt_of_lt_of_le (by omega : b < w.heap.size) hbw.size
      clear hmay hrow HCf hc hbw hb1
      rename World => w6
      obtain ⟨i0, hi, hz0, hz1, hz2⟩ := info_parts info3'
      go_wp2
      go_loopw [8, 11] (fun vm i wr => ∃ (k : Nat) (mu : List Int), i = .int .i64 k ∧ k ≤ my.length ∧ mu = (my.take k).filter (fun m => decide (0 < moreL q.toList es m)) ∧ Ints w6.heap.size wr vm mu ∧ Below w6.heap.size w6 wr) (fun _ i _ => my.length - (intOf i).toNat)
      case atStart => exact ⟨0, [], rfl, Nat.zero_le _, rfl, Ints.nil _ _, Below.refl _ _⟩
      case round =>
        obtain ⟨k, mu, rfl, hk, hmu, hrow, hbw⟩ := hrel
        rename World => wo
        have hws := hbw.size
        have hml : mu.length ≤ 400 := by
          have := List.length_filter_le (fun m => decide (0 < moreL q.toList es m)) (my.take k)
          rw [← hmu] at this
          simp at this
          omega
        have hm1 : mu.length + 1 ≤ maxLen := by unfold maxLen; omega
        by_cases hlt : k < my.length
        · obtain ⟨m, hm⟩ : ∃ m, my[k]? = some m := ⟨_, List.getElem?_eq_getElem hlt⟩
          rcases HR.out.cases with ⟨_, h0⟩ | ⟨g, capv, hv, _, hg, _, hcm, hcv, _⟩
          · rw [h0] at hlt; exact absurd hlt (Nat.not_lt_zero _)
          · obtain ⟨rfl, _, rfl⟩ : p = some ⟨g, 0, none⟩ ∧ True ∧ c9 = capv := by simpa using hv
            have HCL : ∀ W, Below w6.heap.size w6 W → Hid (W.cell? ⟨g, k, none⟩ = some (.int .i64 m)) := fun W h => (h.cell (p := ⟨g, k, none⟩) hg).trans (hcv k m hm)
            have HX := Lib.hid hm
            have HU := Lib.hid hmu
            have HRow := Lib.hid hrow
            clear hm hmu hcv hv hrow
            go_wp2
            go_loopw [12, 13, 14] (fun tv gv jv wq => ∃ (j : Nat) (t g' : Int), tv = .int .i64 t ∧ gv = .int .i64 g' ∧ jv = .int .i64 j ∧ j ≤ es.length ∧ TI es q.toList m j t g' ∧ Below wo.heap.size wo wq) (fun _ _ jv _ => es.length - (intOf jv).toNat)
            case atStart => exact ⟨0, 0, 0, rfl, rfl, rfl, Nat.zero_le _, TI.start _ _ _, Below.refl _ _⟩
            case round =>
              obtain ⟨j, t, g', rfl, rfl, rfl, hj, hTI, hbq⟩ := hrel
              have hB6 := hbw.trans (hbq.mono hws)
              have hc := (HCw _ hB6).out
              have cl := (HCL _ hB6).out
              by_cases hltj : j < es.length
              · obtain ⟨e, he⟩ : ∃ e, es[j]? = some e := ⟨_, List.getElem?_eq_getElem hltj⟩
                obtain ⟨c0, c1, c2, c3, c4, c5⟩ := hc j e he
                obtain ⟨t1, t2, t3, t4⟩ := hTI.bound hlen
                obtain ⟨cr, hcr⟩ : ∃ x, (es.drop j).any crashE = x := ⟨_, rfl⟩
                have hCR : ∀ W, Below wr.heap.size wr W → Calls Try.prog 27 #[.slice (some ⟨b, off + j * 6, none⟩) (es.length - j) (cap - j)] W fun r w' => r = .returned (.bool cr) ∧ w' = W := fun W h => by
                  have := crashes_some b (off + j * 6) (cap - j) (es.drop j) W (by simp; omega) (drop_all ((HCw W (hB6.trans (h.mono (Nat.le_trans hws hbq.size)))).out) j)
                  rw [List.length_drop, hcr] at this
                  exact this
                have HE := Lib.hid he
                have HT := Lib.hid hTI
                have HD := Lib.hid hcr
                clear he hTI hcr hc
                obtain ⟨wa, hwa⟩ : ∃ x, wr.alloc (.cells #[.int .i64 e.kind, .int .i64 e.who, .string e.queue, .int .i64 e.msg, .int .i64 e.count, .bool e.dur] 55) = x := ⟨_, rfl⟩
                have hx : wa.heap[wr.heap.size]? = some (.cells #[.int .i64 e.kind, .int .i64 e.who, .string e.queue, .int .i64 e.msg, .int .i64 e.count, .bool e.dur] 55 (0, 0)) := by rw [← hwa]; exact World.alloc_heap_new wr _
                have hBa : Below wr.heap.size wr wa := by rw [← hwa]; exact (Below.refl _ _).alloc (Nat.le_refl _) _
                have hBo : Below wo.heap.size wo wa := hbq.trans (hBa.mono hbq.size)
                have HBo := Lib.hid hBo
                have d0 : wa.cell? ⟨wr.heap.size, 0, none⟩ = some (.int .i64 e.kind) := by simp [World.cell?, hx]
                have d2 : wa.cell? ⟨wr.heap.size, 2, none⟩ = some (.string e.queue) := by simp [World.cell?, hx]
                have d3 : wa.cell? ⟨wr.heap.size, 3, none⟩ = some (.int .i64 e.msg) := by simp [World.cell?, hx]
                have d5 : wa.cell? ⟨wr.heap.size, 5, none⟩ = some (.bool e.dur) := by simp [World.cell?, hx]
                have cla := (HCL _ (hB6.trans (hBa.mono (Nat.le_trans hws hbq.size)))).out
                clear hx cl
                cases hk7 : (e.kind == 7) with
                | true =>
                  have H7 : Hid (e.kind = 7) := Lib.hid (by simpa using hk7)
                  go_wp2
                  exact ⟨⟨j + 1, t, g', rfl, rfl, by go_num, by omega, HT.out.none HE.out (by simp [takE, H7.out]) (by simp [gotE, H7.out]), HBo.out⟩, by simp [intOf]; omega⟩
                | false =>
                  have H7 : Hid (¬ e.kind = 7) := Lib.hid (by simpa using hk7)
                  cases hd' : (e.msg == m) with
                  | false =>
                    have hne : Hid (¬ e.msg = m) := Lib.hid (by simpa using hd')
                    go_wp2
                    go_quiet (fail)
                    go_wp2
                    go_quiet (fail)
                    go_wp2
                    exact ⟨⟨j + 1, t, g', rfl, rfl, by go_num, by omega, HT.out.none HE.out (by simp [takE, hne.out]) (by simp [gotE, hne.out]), below_drewN HBo.out _⟩, by simp [intOf]; omega⟩
                  | true =>
                    have hme : Hid (e.msg = m) := Lib.hid (by simpa using hd')
                    cases hk4 : (e.kind == 4) with
                    | true =>
                      have H4 : Hid (e.kind = 4) := Lib.hid (by simpa using hk4)
                      have hk2 : (e.kind == 2) = false := by simp [H4.out]
                      go_wp2
                      go_quiet (fail)
                      go_wp2
                      go_quiet (fail)
                      go_wp2
                      exact ⟨⟨j + 1, t, g' + 1, rfl, by go_num, by go_num, by omega, HT.out.got HE.out (by simp [takE, H4.out]) (by simp [gotE, H4.out, hme.out]), below_drewN HBo.out _⟩, by simp [intOf]; omega⟩
                    | false =>
                      have H4 : Hid (¬ e.kind = 4) := Lib.hid (by simpa using hk4)
                      cases hk2 : (e.kind == 2) with
                      | false =>
                        have H2 : Hid (¬ e.kind = 2) := Lib.hid (by simpa using hk2)
                        go_wp2
                        go_quiet (fail)
                        go_wp2
                        go_quiet (fail)
                        go_wp2
                        exact ⟨⟨j + 1, t, g', rfl, rfl, by go_num, by omega, HT.out.none HE.out (by simp [takE, H2.out]) (by simp [gotE, H4.out]), below_drewN HBo.out _⟩, by simp [intOf]; omega⟩
                      | true =>
                        have H2 : Hid (e.kind = 2) := Lib.hid (by simpa using hk2)
                        cases hq : (e.queue.toList == q.toList) with
                        | false =>
                          have HQ := Lib.hid hq
                          go_wp2
                          go_quiet (fail)
                          go_wp2
                          go_quiet (fail)
                          go_wp2
                          exact ⟨⟨j + 1, t, g', rfl, rfl, by go_num, by omega, HT.out.none HE.out (by simp [takE, HQ.out]) (by simp [gotE, H4.out]), below_drewN HBo.out _⟩, by simp [intOf]; omega⟩
                        | true =>
                          have HQ := Lib.hid hq
                          rcases Bool.eq_false_or_eq_true e.dur with hu | hu
                          · have HU5 := Lib.hid hu
                            clear hu
                            go_wp2
                            go_quiet (fail)
                            go_wp2
                            go_quiet (fail)
                            have hu := HU5.out
                            rw [hu] at d5
                            go_wp2
                            exact ⟨⟨j + 1, t + 1, g', by go_num, rfl, by go_num, by omega, HT.out.take HE.out (by simp [takE, H2.out, HQ.out, hme.out, HU5.out]) (by simp [gotE, H4.out]), below_drewN HBo.out _⟩, by simp [intOf]; omega⟩
                          · have HU5 := Lib.hid hu
                            clear hu
                            go_wp2
                            go_quiet (fail)
                            go_wp2
                            go_quiet (fail)
                            have hu := HU5.out
                            rw [hu] at d5
                            have hcj : ¬ cap = j := by omega
                            cases cr with
                            | true =>
                              go_wp2_with (go_at_call 27; refine (hCR (wa.drewN _) (below_drewN hBa _)).mono ?_; rintro r w7 ⟨rfl, rfl⟩)
                              exact ⟨⟨j + 1, t, g', rfl, rfl, by go_num, by omega, HT.out.none HE.out (by simp only [HU5.out, HD.out]; simp) (by simp [gotE, H4.out]), below_drewN HBo.out _⟩, by simp [intOf]; omega⟩
                            | false =>
                              go_wp2_with (go_at_call 27; refine (hCR (wa.drewN _) (below_drewN hBa _)).mono ?_; rintro r w7 ⟨rfl, rfl⟩)
                              exact ⟨⟨j + 1, t + 1, g', by go_num, rfl, by go_num, by omega, HT.out.take HE.out (by simp only [HU5.out, HD.out]; simp [takE, H2.out, HQ.out, hme.out]) (by simp [gotE, H4.out]), below_drewN HBo.out _⟩, by simp [intOf]; omega⟩
              · obtain rfl : j = es.length := by omega
                have hte := hTI.end
                have HU2 : Hid (Ints w6.heap.size wr _ mu) := Ints.below hbq HRow.out (fun g hg => (Ints.lt HRow.out g hg).2)
                obtain ⟨t1, t2, t3, t4⟩ := hTI.bound hlen
                have hws2 : w6.heap.size ≤ wr.heap.size := Nat.le_trans hws hbq.size
                have HTE := Lib.hid hte
                have HB6 := Lib.hid hB6
                have hrow := HU2.out
                clear hte hTI hc
                go_wp2_with (first
                  | (at_builtin; refine wpList_append_own _ rfl _ _ 33 rfl w6.heap.size 3 i0 (.int .i64 0) 1 8 Try.underlying33 hi hz0 hz1 hz2 rfl (by decide) _ _ _ rfl (World.ownsRow.alloc hrow _) ⟨wr.heap.size, 0, none⟩ 1 1 [.int .i64 _] rfl rfl (cell_one_new _ _ _) (by simp [Value.oneCell']) hm1 (by omega) (by simp; omega) ?_
                     intro v' w3 hown' hgrow _; obtain ⟨hi3, hb3⟩ := Ints.appended hrow hws2 hown' hgrow; clear hrow hown' hgrow)
                  | go_in)
                · have h0 : g' < t := by assumption
                  exact ⟨⟨k + 1, mu ++ [m], by go_num, by omega, by rw [must_yes HX.out (HTE.out.symm.trans (by simpa using h0)), HU.out], hi3, HB6.out.trans hb3⟩, by simp [intOf]; omega⟩
                · have h0 : t ≤ g' := by assumption
                  exact ⟨⟨k + 1, mu, by go_num, by omega, by rw [must_no HX.out (HTE.out.symm.trans (by simpa using h0)), HU.out], HU2.out, HB6.out⟩, by simp [intOf]; omega⟩
        · obtain rfl : k = my.length := by omega
          rw [List.take_length] at hmu
          have HU := Lib.hid hmu
          clear hmu
          go_wp2
          have hBr : Below w.heap.size w wo := HBw.out.trans (hbw.mono HBw.out.size)
          have hiv : Ints w.heap.size wo (.slice p my.length c9) my := Ints.below hbw HR.out (fun g hg => (Ints.lt HR.out g hg).2)
          have him : Ints w.heap.size wo _ mu := Ints.base hrow HBw.out.size
          have hfin : LeftAns w es q (.returned (.tuple #[_, .slice p my.length c9, .int .i64 0])) wo :=
            ⟨_, _, mu, my, by rw [hh.out], him, hiv, fun g hg hg' => by have h1 := (Ints.lt hrow g hg).1; have h2 := (Ints.lt HR.out g hg').2; omega, hBr, by omega, by rw [if_pos hh.out]; exact ⟨HM.out, HU.out⟩⟩
          refine bodyPost_ret ?_ rfl hfin
          simp [results, Try.f14, go_sem]

set_option maxRecDepth 100000 in
set_option maxHeartbeats 2000000 in
theorem rleft_bad (sv : Value) (E : Int) (q : ByteArray) (w : World) (hE : E = 2 ∨ E = 270)
    (hA : Calls Try.prog 22 #[sv] w fun r w' => r = .returned (.int .i64 E) ∧ Below w.heap.size w w') :
    Calls Try.prog 14 #[.string q, sv] w fun e W' => e = .returned (.tuple #[.slice none 0 0, .slice none 0 0, .int .i64 E]) ∧ Below w.heap.size w W' := by
  go_enter Try.func14, Try.ntmps14
  go_wp2_with (go_at_call 22; refine hA.mono ?_; rintro r w1 ⟨rfl, hb1⟩)
  all_goals first
    | (refine bodyPost_ret (v := .tuple #[.slice none 0 0, .slice none 0 0, .int .i64 E]) (by simp [results, Try.f14, go_sem]) rfl ?_
       exact ⟨rfl, hb1⟩)
    | omega

set_option maxRecDepth 100000 in
set_option maxHeartbeats 2000000 in
theorem rleft_nil (p : Option Addr) (c : Nat) (q : ByteArray) (w : World)
    (hA : Calls Try.prog 22 #[.slice p 0 c] w fun r w' => r = .returned (.int .i64 0) ∧ Below w.heap.size w w') :
    Calls Try.prog 14 #[.string q, .slice p 0 c] w fun e W' => e = .returned (.tuple #[.slice none 0 0, .slice none 0 0, .int .i64 0]) ∧ Below w.heap.size w W' := by
  go_enter Try.func14, Try.ntmps14
  go_wp2_with (go_at_call 22; refine hA.mono ?_; rintro r w1 ⟨rfl, hb1⟩)
  refine wp_loop_rounds 1 ?_
  rw [rounds_succ]
  go_wp2
  refine wp_loop_rounds 1 ?_
  rw [rounds_succ]
  go_wp2
  refine bodyPost_ret (v := .tuple #[.slice none 0 0, .slice none 0 0, .int .i64 0]) (by simp [results, Try.f14, go_sem]) rfl ?_
  exact ⟨rfl, hb1⟩

theorem rleft_any (n : Nat) (sv : Value) (es : List Ent) (q : ByteArray) (w : World) (h : HistAt n w sv es) (hn : n ≤ w.heap.size) (hcap : ∀ p c, sv = .slice p es.length c → es.length ≤ c) :
    Calls Try.prog 14 #[.string q, sv] w (LeftAns w es q) := by
  have hA := history_any n sv es w h hn
  by_cases h0 : histE es = 0
  · rcases h with ⟨p, c, rfl, rfl⟩ | ⟨b, off, cap, rfl, hb, hc⟩
    · rw [h0] at hA
      refine (rleft_nil p c q w hA).mono ?_
      rintro e W' ⟨rfl, hb⟩
      exact ⟨_, _, [], [], by rw [h0], Ints.nil _ _, Ints.nil _ _, fun g hg => by simp [Value.ownBlock] at hg, hb, by simp, by rw [if_pos h0]; exact ⟨MayL.none _, rfl⟩⟩
    · exact rleft_good n b off cap es q w hb hn (histE_len' h0) (hcap _ _ rfl) hc h0
  · refine (rleft_bad sv (histE es) q w (by rcases histE_cases' es with h | h | h <;> first | exact absurd h h0 | exact .inl h | exact .inr h) hA).mono ?_
    rintro e W' ⟨rfl, hb⟩
    exact ⟨_, _, [], [], rfl, Ints.nil _ _, Ints.nil _ _, fun g hg => by simp [Value.ownBlock] at hg, hb, by simp, by rw [if_neg h0]; exact ⟨rfl, rfl⟩⟩

end Go.Proofs.Ytgincippgaecfaa.Au
