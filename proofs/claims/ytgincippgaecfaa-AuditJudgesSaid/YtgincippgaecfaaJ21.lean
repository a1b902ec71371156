/-
  The program's Judge: its walk. No condition but the sizes.
-/
import Derived.Test.YtgincippgaecfaaJ20
namespace Go.Proofs.Ytgincippgaecfaa.Au
open Go Go.RowKit
attribute [local go_sem ↓] Go.wp_at_zero Go.wp_at_succ

theorem QsAt.len {n : Nat} {w : World} {sv : Value} {qs : List Qc} (h : QsAt n w sv qs) : ∃ a cap, sv = .slice a qs.length cap := by
  rcases h with ⟨p, c, rfl, rfl⟩ | ⟨b, off, cap, rfl, _, _⟩
  · exact ⟨_, _, rfl⟩
  · exact ⟨_, _, rfl⟩
theorem QsAt.at_ {n : Nat} {w : World} {a : Option Addr} {cap k : Nat} {qs : List Qc} {c : Qc} (h : QsAt n w (.slice a qs.length cap) qs) (hc : qs[k]? = some c) : ∃ b off, a = some ⟨b, off, none⟩ ∧ b < n ∧ QcAt w b (off + k * 5) c := by
  rcases h with ⟨p, c, _, rfl⟩ | ⟨b, off, cap, e, hb, hq⟩
  · simp at hc
  · simp only [Value.slice.injEq] at e
    exact ⟨b, off, e.1, hb, hq k c hc⟩
theorem HistAt.at_ {n : Nat} {w : World} {a : Option Addr} {cap k : Nat} {es : List Ent} {e : Ent} (h : HistAt n w (.slice a es.length cap) es) (hc : es[k]? = some e) : ∃ b off, a = some ⟨b, off, none⟩ ∧ b < n ∧ EntAt w b (off + k * 6) e := by
  rcases h with ⟨p, c, _, rfl⟩ | ⟨b, off, cap, e, hb, hq⟩
  · simp at hc
  · simp only [Value.slice.injEq] at e
    exact ⟨b, off, e.1, hb, hq k _ hc⟩

theorem cellsFar3 {A B : World} {row : Option Nat} {S C : Nat} {x y : ByteArray} (hg : A.grownBy B row) (hS : S + 5 < A.heap.size) (hE : C < A.heap.size) (hr : row ≠ some (S + 5)) (hr2 : row ≠ some C)
    (h : A.cell? ⟨S + 5, 0, none⟩ = some (.map (some S)) ∧ A.cell? ⟨C, 0, none⟩ = some (.string x) ∧ A.cell? ⟨C, 2, none⟩ = some (.string y)) :
    B.cell? ⟨S + 5, 0, none⟩ = some (.map (some S)) ∧ B.cell? ⟨C, 0, none⟩ = some (.string x) ∧ B.cell? ⟨C, 2, none⟩ = some (.string y) := by
  obtain ⟨h0, h1, h2⟩ := h
  exact ⟨(hg.cell_far ⟨S + 5, 0, none⟩ hS (Ne.symm hr)).trans h0, (hg.cell_far ⟨C, 0, none⟩ hE (Ne.symm hr2)).trans h1, (hg.cell_far ⟨C, 2, none⟩ hE (Ne.symm hr2)).trans h2⟩

set_option maxRecDepth 100000 in
set_option maxHeartbeats 16000000 in
theorem pjudge_good (n : Nat) (a a2 : Option Addr) (cap cap2 : Nat) (qs : List Qc) (es : List Ent) (w : World) (hq : qs.length * 56 ≤ 140737488351232) (hs : QsAt n w (.slice a qs.length cap) qs) (h : HistAt n w (.slice a2 es.length cap2) es) (hn : n ≤ w.heap.size)
    (hh : histE es = 0) (hw : ∀ e ∈ es, EntOk e) (hz : ∀ c ∈ qs, c.name.size ≤ maxLen ∧ c.dead.size ≤ maxLen) :
    Calls Try.prog 10 #[.slice a qs.length cap, .slice a2 es.length cap2] w fun r w' => r = .returned (.tuple #[.int .i64 (judgeL qs es).1, .int .i64 (judgeL qs es).2, .int .i64 0]) ∧ Below w.heap.size w w' := by
  have ha := amiss_any n _ es w h hn
  rw [hh] at ha
  have hel := histE_lenJ hh
  have HH := Lib.hid h
  have HS := Lib.hid hs
  have HW := Lib.hid hw
  have HZ := Lib.hid hz
  have HQ := Lib.hid hq
  have hql : (qs.length : Int) ≤ 2513169434843 := by omega
  have hmm := @run_makeMap Try.prog
  clear hh h hs hw hz hq
  go_enter Try.func10, Try.ntmps10
  go_wp2_with (first
    | (go_at_call 20; refine ha.mono ?_; clear ha; rintro r w1 ⟨rfl, hb1⟩)
    | go_in)
  clear hmm
  obtain ⟨S, hS⟩ : ∃ S, w1.heap.size = S := ⟨_, rfl⟩
  have hL0 := JL.start w1 qs
  have hSn := Nat.le_of_eq hS.symm
  rw [hS] at hL0
  simp only [hS]
  have HSZ := Lib.hid hS
  clear hS
  obtain ⟨i0, hi, hz0, hz1, hz2⟩ := info_parts info9
  go_loopw [28] (fun i wr => ∃ k : Nat, i = .int .i64 k ∧ k ≤ qs.length ∧ JL S w1 qs k wr) (fun i _ => qs.length - (intOf i).toNat)
  case atStart => exact ⟨0, rfl, Nat.zero_le _, hL0⟩
  case round =>
    clear hL0
    obtain ⟨k, rfl, hk, hL⟩ := hrel
    by_cases hlt : k < qs.length
    · obtain ⟨c, hc⟩ : ∃ c, qs[k]? = some c := ⟨_, List.getElem?_eq_getElem hlt⟩
      have hbw : Below w.heap.size w wr := hb1.trans (hL.below.mono (by rw [← HSZ.out]; exact hb1.size))
      obtain ⟨b, off, rfl, hb, hQ⟩ := HS.out.at_ hc
      obtain ⟨c0, c1, c2, c3, c4⟩ := (hQ.below hbw (Nat.lt_of_lt_of_le hb hn))
      have HC := Lib.hid hc
      have HL := Lib.hid hL
      have hsz := hL.size
      by_cases hd : c.dead.toList = []
      · have hd2 : c.dead.toList.isEmpty = true := by rw [hd]; rfl
        have HD := Lib.hid hd
        clear hc hL hQ hbw hd
        go_wp2
        exact ⟨⟨k + 1, by go_num, by omega, (HL.out.grown (World.grownBy_alloc _ _ _)).pass HC.out HD.out⟩, by simp [intOf]; omega⟩
      · have hd2 : c.dead.toList.isEmpty = false := by simpa using hd
        have HD := Lib.hid hd
        have hL2 := hL.grown (World.grownBy_alloc wr (.cells #[.string c.name, .int .i64 c.most, .string c.dead, .int .i64 c.tries, .bool c.durable] 27) none)
        obtain ⟨f, hM0, hrows0, hap⟩ := hL.dead
        have hM := hM0.alloc (.cells #[.string c.name, .int .i64 c.most, .string c.dead, .int .i64 c.tries, .bool c.durable] 27)
        have hrows : ∀ s, Strs (S + 6) (wr.alloc (.cells #[.string c.name, .int .i64 c.most, .string c.dead, .int .i64 c.tries, .bool c.durable] 27)) (f (.string s)) (deadsA (qs.take k) s) := fun s => ownsRow_kept (hrows0 s) (World.grownBy_alloc _ _ none) (by simp)
        have hcs := (HZ.out c (List.mem_of_getElem? hc)).1
        have hj0 := hL2.cell0
        have hl7 := hM.drew.look keyed9 Try.underlying59 (zero67 _) (key9 hcs)
        have hl8 := ((hM.alloc (.cells #[.string c.dead] 9)).drew).look keyed9 Try.underlying59 (zero67 _) (key9 hcs)
        obtain ⟨v, hv⟩ : ∃ v, f (.string c.name) = v := ⟨_, rfl⟩
        have hown := hrows c.name
        rw [hv] at hl7 hl8 hown
        obtain ⟨xs, hxs⟩ : ∃ xs, deadsA (qs.take k) c.name = xs := ⟨_, rfl⟩
        have hxl := deadsA_len (qs.take k) c.name
        rw [hxs] at hown hxl
        have hxl2 : xs.length ≤ 2513169434843 := Nat.le_trans hxl (Nat.le_trans (List.length_take_le' _ _) (by omega))
        have hve : v.ownBlock ≠ some wr.heap.size := fun e => by
          have := (World.ownsRow.lt (hrows0 c.name) _ (by rw [hv]; exact e)).2
          omega
        have hnews : ∀ (j : Nat) (u : Value), [Value.string c.dead][j]? = some u → ((wr.alloc (.cells #[.string c.name, .int .i64 c.most, .string c.dead, .int .i64 c.tries, .bool c.durable] 27)).drew.alloc (.cells #[.string c.dead] 9)).cell? ((⟨wr.heap.size + 1, 0, none⟩ : Addr).add j) = some u := by
          have h1 := cells_new (wr.alloc (.cells #[.string c.name, .int .i64 c.most, .string c.dead, .int .i64 c.tries, .bool c.durable] 27)).drew [.string c.dead] 9
          have h2 : (wr.alloc (.cells #[.string c.name, .int .i64 c.most, .string c.dead, .int .i64 c.tries, .bool c.durable] 27)).drew.heap.size = wr.heap.size + 1 := by simp
          rw [h2] at h1
          exact h1
        have hvb : ∀ r, r < S + 6 → v.ownBlock ≠ some r := fun r hr e => by
          have := (World.ownsRow.lt hown r e).1
          omega
        have hx1 : xs.length + 1 ≤ maxLen := by unfold maxLen; omega
        have hx2 : (xs.length + 1) * 16 ≤ 140737488355328 := by omega
        have hown8 : ((wr.alloc (.cells #[.string c.name, .int .i64 c.most, .string c.dead, .int .i64 c.tries, .bool c.durable] 27)).drew.alloc (.cells #[.string c.dead] 9)).ownsRow (S + 6) 9 1 v xs.length (xs.map Value.string) := World.ownsRow.alloc (ownsRow_block (B := (wr.alloc (.cells #[.string c.name, .int .i64 c.most, .string c.dead, .int .i64 c.tries, .bool c.durable] 27)).drew) hown fun _ _ => rfl) _
        have hb9 : S + 6 ≤ ((wr.alloc (.cells #[.string c.name, .int .i64 c.most, .string c.dead, .int .i64 c.tries, .bool c.durable] 27)).drew.alloc (.cells #[.string c.dead] 9)).heap.size := by simp; omega
        have HO := Lib.hid hown8
        have HMS := Lib.hid hM
        have HR := Lib.hid (And.intro hrows hap)
        have HV := Lib.hid (And.intro hv hxs)
        have HCS := Lib.hid hcs
        have HL2 := Lib.hid hL2
        clear hc hL hQ hbw hd hL2 hM hM0 hrows hrows0 hap hv hxs hown hown8 hcs
        go_wp2
        go_region_held3 (fun w' => w'.cell? ⟨S + 5, 0, none⟩ = some (.map (some S)) ∧ w'.cell? ⟨wr.heap.size, 0, none⟩ = some (.string c.name) ∧ w'.cell? ⟨wr.heap.size, 2, none⟩ = some (.string c.dead))
          (first
            | go_keep
            | exact cellsFar3 (World.grownBy_alloc _ _ none) (by simp; omega) (by simp) (by simp) (by simp) (by assumption)
            | exact cellsFar3 hg10 (by omega) (by omega) (by simp) (by simp; omega) (by assumption)
            | exact cellsFar3 hgrow9 (by simp; omega) (by simp; omega) (hvb _ (by omega)) hve (by assumption))
          ((refine step_append_lies _ (by rfl) _ _ _ (by rfl) (S + 6) 9 i0 _ 1 16 Try.underlying67 hi hz0 hz1 hz2 rfl (by omega) v xs.length (xs.map Value.string) (by rfl) HO.out ⟨wr.heap.size + 1, 0, none⟩ 1 1 [.string c.dead] (by rfl) rfl hnews (by simp [Value.oneCell']) (by omega) hx1 hx2 hb9 _ rfl ?_; intro g cap9 w9 hown9 hgrow9 hat9 hlt9; obtain ⟨w10, hr10, hm10, hg10⟩ := ((HMS.out.drew.alloc _).kept hgrow9 (Ne.symm (hvb S (by omega)))).put keyed9 Try.underlying59 (by unfold maxLen; omega) (key9 HCS.out) (.slice (some ⟨g, 0, none⟩) (xs.length + 1) cap9); have hz9 := hgrow9.size; simp at hz9))
        all_goals go_wp2
        all_goals refine ⟨⟨k + 1, by go_num, by omega, HL2.out.step HC.out HD.out (W1 := w9) HR.out.1 HR.out.2 (by rw [HV.out.1]; exact (Grow.drew _ _).trans hgrow9) (by rw [HV.out.2]; unfold Strs; simpa using hown9) (fun g' e => ?_) (hm10 _ (upd_same _ _ _) fun y hy => upd_other _ _ _ hy) hg10⟩, by simp [intOf]; omega⟩
        all_goals
          simp only [Value.ownBlock, Option.some.injEq] at e
          subst e
          rcases hat9 with h | h
          · exact .inl (by rw [HV.out.1]; exact h)
          · exact .inr (by rw [h]; simp)
    · obtain rfl : k = qs.length := by omega
      have hJ0 := hL.end hSn fun c hc => (HZ.out c hc).2
      have hbs := hL.below
      obtain ⟨B2, hB2⟩ : ∃ B2, wr.heap.size = B2 := ⟨_, rfl⟩
      rw [hB2] at hJ0
      clear hL
      have H2 := Lib.hid hB2
      clear hB2
      go_wp2
      go_loopw [55] (fun i wr2 => ∃ k : Nat, i = .int .i64 k ∧ k ≤ es.length ∧ judgeFrom qs es (es.length - k) k = judgeL qs es ∧ JI S B2 w1 qs (es.take k) wr2) (fun i _ => es.length - (intOf i).toNat)
      case atStart => exact ⟨0, rfl, Nat.zero_le _, rfl, hJ0⟩
      case round =>
        clear hJ0
        obtain ⟨k, rfl, hk, hj, hJ⟩ := hrel
        have hbw : Below w.heap.size w wr := hb1.trans (hJ.below.mono (by rw [← HSZ.out]; exact hb1.size))
        by_cases hlt : k < es.length
        · obtain ⟨e, he⟩ : ∃ e, es[k]? = some e := ⟨_, List.getElem?_eq_getElem hlt⟩
          obtain ⟨b, off, rfl, hb, hE⟩ := HH.out.at_ he
          obtain ⟨c0, c1, c2, c3, c4, c5⟩ := hE.below hbw (Nat.lt_of_lt_of_le hb hn)
          have hlk : (es.take k).length = k := by rw [List.length_take]; omega
          have hcall := pwrong_any e (hJ.later ((Below.refl _ wr).alloc (Nat.le_refl _) (.cells #[.int .i64 e.kind, .int .i64 e.who, .string e.queue, .int .i64 e.msg, .int .i64 e.count, .bool e.dur] 55))) (by rw [hlk]; omega) (HW.out e (List.mem_of_getElem? he)) (fun x hx => HW.out x (List.mem_of_mem_take hx)) HQ.out
          have hsub : es.length - k = (es.length - (k + 1)) + 1 := by omega
          have htk : es.take (k + 1) = es.take k ++ [e] := by rw [List.take_add_one, he]; rfl
          obtain ⟨x, hx⟩ : ∃ x, wrongL qs (es.take k) e = x := ⟨_, rfl⟩
          rw [hx] at hcall
          have HE := Lib.hid he
          have HX := Lib.hid hx
          have HJ := Lib.hid hj
          have HSUB := Lib.hid hsub
          have HTK := Lib.hid htk
          clear he hE hJ hx hj hsub htk hlk hbw
          go_wp2_with (first
            | (go_at_call 21; refine hcall.mono ?_; clear hcall; rintro r w4 ⟨rfl, hb4, hJ4⟩; have HJ4 := Lib.hid hJ4; clear hJ4)
            | go_in)
          · have hx0 : ¬ wrongL qs (es.take k) e = 0 := by
              have hq : ((x : Int) != 0) = true := by assumption
              rw [HX.out]; simpa using hq
            have hj2 := HJ.out
            rw [HSUB.out, judgeFrom_bad HE.out hx0, HX.out] at hj2
            go_ret3
            exact ⟨by rw [← hj2]; rfl, hb1.trans (hb4.mono (by rw [← HSZ.out]; exact hb1.size))⟩
          · have hx1 : x = 0 := by
              have hq : ((x : Int) != 0) = false := by assumption
              simpa using hq
            have hx0 : wrongL qs (es.take k) e = 0 := by rw [HX.out, hx1]
            have hj2 := HJ.out
            rw [HSUB.out, judgeFrom_ok HE.out hx0] at hj2
            exact ⟨⟨k + 1, by go_num, by omega, hj2, by rw [HTK.out]; exact HJ4.out hx1⟩, by simp [intOf]; omega⟩
        · obtain rfl : k = es.length := by omega
          rw [Nat.sub_self] at hj
          have HJ := Lib.hid hj
          have HB := Lib.hid hbw
          clear hj hJ hbw
          go_wp2
          go_ret3
          exact ⟨by rw [← HJ.out]; rfl, HB.out⟩

end Go.Proofs.Ytgincippgaecfaa.Au
