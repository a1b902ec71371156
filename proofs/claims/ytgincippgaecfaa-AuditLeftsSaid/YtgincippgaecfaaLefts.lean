/-
  Proved: AuditLefts returns true for every address and every two histories, and each argument reads behind the call as it read before. No condition but the given row's own.
-/
import Derived.Test.YtgincippgaecfaaRows
import Derived.Test.YtgincippgaecfaaG1
import Derived.Test.YtgincippgaecfaaE1
import Derived.Test.YtgincippgaecfaaE5
import Derived.Test.YtgincippgaecfaaA1
import Derived.Test.YtgincippgaecfaaR1
import Derived.Test.YtgincippgaecfaaX1
namespace Go.Proofs.Ytgincippgaecfaa.Au
open Go Go.RowKit

theorem apart_of {vs : List Value} (h : vs.Pairwise fun a b => ∀ g, a.ownBlock = some g → b.ownBlock ≠ some g) : Apart vs := by
  rw [List.pairwise_iff_getElem] at h
  intro i j vi vj g hij hi hj hg hg'
  obtain ⟨li, rfl⟩ := List.getElem?_eq_some_iff.1 hi
  obtain ⟨lj, rfl⟩ := List.getElem?_eq_some_iff.1 hj
  rcases Nat.lt_or_ge i j with hlt | hge
  · exact h i j li lj hlt g hg hg'
  · exact h j i lj li (by omega) g hg' hg

theorem ans_one {es : List Ent} {q : List UInt8} {mu my mu' my' : List Int} (h : if histE es = 0 then MayL es q my ∧ mu = mustOf es q my else mu = [] ∧ my = []) (h' : if histE es = 0 then MayL es q my' ∧ mu' = mustOf es q my' else mu' = [] ∧ my' = []) : mu' = mu ∧ my' = my := by
  by_cases h0 : histE es = 0
  · rw [if_pos h0] at h h'
    have := h'.1.unique h.1
    subst this
    exact ⟨h'.2.trans h.2.symm, rfl⟩
  · rw [if_neg h0] at h h'
    exact ⟨h'.1.trans h.1.symm, h'.2.trans h.2.symm⟩
theorem ans_len {es : List Ent} {q : List UInt8} {mu my : List Int} (h : if histE es = 0 then MayL es q my ∧ mu = mustOf es q my else mu = [] ∧ my = []) (hl : my.length ≤ 400) : mu.length ≤ 400 := by
  by_cases h0 : histE es = 0
  · rw [if_pos h0] at h
    rw [h.2]
    exact Nat.le_trans (List.length_filter_le _ _) hl
  · rw [if_neg h0] at h
    rw [h.1]; simp

/-- Two rows that hold one list, in whatever world. -/
def Two (W : World) (p : Value × Value) : Prop := ∃ (b1 b2 : Nat) (l : List Int), Ints b1 W p.1 l ∧ Ints b2 W p.2 l ∧ l.length ≤ 400

set_option maxRecDepth 100000 in
set_option maxHeartbeats 8000000 in
theorem lefts_any (sv so : Value) (es eo : List Ent) (q : ByteArray) (W : World) (h : HistAt W.heap.size W sv es) (ho : HistAt W.heap.size W so eo) (hreach : es.length * 56 ≤ 140737488351232)
    (hwf : ∀ e ∈ es, (Lit.int .i64 e.msg).wf = true) (hwo : ∀ e ∈ eo, (Lit.int .i64 e.msg).wf = true) (hcap : ∀ p c, sv = .slice p es.length c → es.length ≤ c) (hcapo : ∀ p c, so = .slice p eo.length c → eo.length ≤ c) :
    Calls Try.prog 4 #[.string q, sv, so] W fun e W' => e = .returned (.bool true) ∧ Below W.heap.size W W' := by
  have hL := fun (W1 : World) (hb : Below W.heap.size W W1) => lent_any W.heap.size sv es W1 hreach (h.below hb)
  have H : Hid (HistAt W.heap.size W sv es) := h
  have HO : Hid (HistAt W.heap.size W so eo) := ho
  have HC : Hid (∀ p c, sv = .slice p es.length c → es.length ≤ c) := hcap
  have HCO : Hid (∀ p c, so = .slice p eo.length c → eo.length ≤ c) := hcapo
  have HW : Hid (∀ e ∈ es, (Lit.int .i64 e.msg).wf = true) := hwf
  have HWO : Hid (∀ e ∈ eo, (Lit.int .i64 e.msg).wf = true) := hwo
  obtain ⟨E1, hE1⟩ : ∃ b, histE es = b := ⟨_, rfl⟩
  obtain ⟨E2, hE2⟩ : ∃ b, histE eo = b := ⟨_, rfl⟩
  have HE1 := Lib.hid hE1
  have HE2 := Lib.hid hE2
  clear h ho hcap hcapo hwf hwo hE1 hE2
  go_enter Try.func4, Try.ntmps4
  go_wp2_with (first
    | (go_at_call 8; refine Aw.awake.mono ?_; rintro e w1 ⟨rfl, hb1⟩)
    | (go_at_call 9; refine (hL _ hb1).mono ?_; clear hL; rintro e w2 ⟨g, cap, rfl, hown, hb2⟩
       have hx2 := Lib.hid (Lent.hist hown)
       have hg2 := (FromAt.of_own (by simp) hown).2.2.2.2
       have hg1 := (FromAt.of_own (by simp) hown).2.2.2.1
       have HOwn := Lib.hid hown
       have hA13 := left_any w2.heap.size _ es q w2 hx2.out (Nat.le_refl _) HW.out
       have hB2 := hb1.trans (hb2.mono hb1.size)
       clear hown)
    | (go_at_call 13; refine hA13.mono ?_; clear hA13; rintro e w3 ⟨vm1, vy1, mu1, my1, rfl, i1, j1, ap1, hb3, ln1, an1⟩; obtain ⟨pm1, cm1, rfl⟩ := Ints.shape i1; obtain ⟨py1, cy1, rfl⟩ := Ints.shape j1; rw [HE1.out]
       have hB3 := hB2.trans (hb3.mono hB2.size)
       have I1 := Lib.hid i1; have J1 := Lib.hid j1; have A1 := Lib.hid ap1; have N1 := Lib.hid an1
       clear i1 j1 ap1 an1
       have hB13 := left_any W.heap.size so eo q w3 (HO.out.below hB3) hB3.size HWO.out)
    | (go_at_call 13; refine hB13.mono ?_; clear hB13; rintro e w4 ⟨vm2, vy2, mu2, my2, rfl, i2, j2, ap2, hb4, ln2, an2⟩; obtain ⟨pm2, cm2, rfl⟩ := Ints.shape i2; obtain ⟨py2, cy2, rfl⟩ := Ints.shape j2; rw [HE2.out]
       have hB4 := hB3.trans (hb4.mono hB3.size)
       have I2 := Lib.hid i2; have J2 := Lib.hid j2; have A2 := Lib.hid ap2; have N2 := Lib.hid an2
       clear i2 j2 ap2 an2
       have hC13 := left_any w2.heap.size _ es q w4 (hx2.out.below (hb3.trans (hb4.mono hb3.size))) (Nat.le_trans hb3.size hb4.size) HW.out)
    | (go_at_call 13; refine hC13.mono ?_; clear hC13; rintro e w5 ⟨vm3, vy3, mu3, my3, rfl, i3, j3, ap3, hb5, ln3, an3⟩; obtain ⟨pm3, cm3, rfl⟩ := Ints.shape i3; obtain ⟨py3, cy3, rfl⟩ := Ints.shape j3; rw [HE1.out]
       have hB5 := hB4.trans (hb5.mono hB4.size)
       have I3 := Lib.hid i3; have J3 := Lib.hid j3; have A3 := Lib.hid ap3; have N3 := Lib.hid an3
       clear i3 j3 ap3 an3
       have hb25 := (hb3.trans (hb4.mono hb3.size)).trans (hb5.mono (Nat.le_trans hb3.size hb4.size))
       have hK11 := kept_own W.heap.size w1.heap.size g cap sv es w5 hb1.size (by omega) (H.out.below hB5) (ownsRow_below hb25 HOwn.out (fun g' e => by simp [Value.ownBlock] at e; omega)))
    | (go_at_call 11; refine hK11.mono ?_; clear hK11; rintro e w6 ⟨rfl, hg6⟩
       have hB6 : Below W.heap.size W w6 := hB5.grown hg6 hB5.size (fun k e => by have := Option.some.inj e; have := hb1.size; omega)
       have hA14 := rleft_any W.heap.size sv es q w6 (H.out.below hB6) hB6.size HC.out)
    | (go_at_call 14; refine hA14.mono ?_; clear hA14; rintro e w7 ⟨vm4, vy4, mu4, my4, rfl, i4, j4, ap4, hb7, ln4, an4⟩; obtain ⟨pm4, cm4, rfl⟩ := Ints.shape i4; obtain ⟨py4, cy4, rfl⟩ := Ints.shape j4; rw [HE1.out]
       have hB7 := hB6.trans (hb7.mono hB6.size)
       have I4 := Lib.hid i4; have J4 := Lib.hid j4; have N4 := Lib.hid an4
       clear i4 j4 ap4 an4
       have hB14 := rleft_any W.heap.size so eo q w7 (HO.out.below hB7) hB7.size HCO.out)
    | (go_at_call 14; refine hB14.mono ?_; clear hB14; rintro e w8 ⟨vm5, vy5, mu5, my5, rfl, i5, j5, ap5, hb8, ln5, an5⟩; obtain ⟨pm5, cm5, rfl⟩ := Ints.shape i5; obtain ⟨py5, cy5, rfl⟩ := Ints.shape j5; rw [HE2.out]
       have hB8 := hB7.trans (hb8.mono hB7.size)
       have I5 := Lib.hid i5; have J5 := Lib.hid j5; have N5 := Lib.hid an5
       clear i5 j5 ap5 an5)
    | go_in)
  have hE14 := ans_one N1.out N4.out
  have hE34 := ans_one N3.out N4.out
  have hE25 := ans_one N2.out N5.out
  have HL1 : Hid (mu1.length ≤ 400) := ans_len N1.out ln1
  have HL2 : Hid (mu2.length ≤ 400) := ans_len N2.out ln2
  have HL3 : Hid (mu3.length ≤ 400) := ans_len N3.out ln3
  obtain ⟨w9, hw9⟩ : ∃ x, (w8.alloc (.cells #[.slice pm1 mu1.length cm1, .slice py1 my1.length cy1, .slice pm2 mu2.length cm2, .slice py2 my2.length cy2, .slice pm3 mu3.length cm3, .slice py3 my3.length cy3] 33)).alloc (.cells #[.slice pm4 mu4.length cm4, .slice py4 my4.length cy4, .slice pm5 mu5.length cm5, .slice py5 my5.length cy5, .slice pm4 mu4.length cm4, .slice py4 my4.length cy4] 33) = x := ⟨_, rfl⟩
  rw [hw9]
  have hgl : w9.heap[w8.heap.size]? = some (.cells (List.toArray [.slice pm1 mu1.length cm1, .slice py1 my1.length cy1, .slice pm2 mu2.length cm2, .slice py2 my2.length cy2, .slice pm3 mu3.length cm3, .slice py3 my3.length cy3]) 33 (0, 0)) := by
    rw [← hw9, Below.heap_alloc _ _ _ (by simp)]; exact World.alloc_heap_new w8 _
  have hgu : w9.heap[w8.heap.size + 1]? = some (.cells (List.toArray [.slice pm4 mu4.length cm4, .slice py4 my4.length cy4, .slice pm5 mu5.length cm5, .slice py5 my5.length cy5, .slice pm4 mu4.length cm4, .slice py4 my4.length cy4]) 33 (0, 0)) := by
    rw [← hw9]
    have := World.alloc_heap_new (w8.alloc (.cells #[.slice pm1 mu1.length cm1, .slice py1 my1.length cy1, .slice pm2 mu2.length cm2, .slice py2 my2.length cy2, .slice pm3 mu3.length cm3, .slice py3 my3.length cy3] 33)) (.cells #[.slice pm4 mu4.length cm4, .slice py4 my4.length cy4, .slice pm5 mu5.length cm5, .slice py5 my5.length cy5, .slice pm4 mu4.length cm4, .slice py4 my4.length cy4] 33)
    rwa [World.size_alloc] at this
  have hb9 : Below w8.heap.size w8 w9 := by
    rw [← hw9]; exact ((Below.refl _ _).alloc (Nat.le_refl _) _).alloc (by simp) _
  clear hw9
  have hB9 := hB8.trans (hb9.mono hB8.size)
  have hb68 := hb7.trans (hb8.mono hb7.size)
  have hb69 := hb68.trans (hb9.mono hb68.size)
  have hb79 := hb8.trans (hb9.mono hb8.size)
  have s56 := hg6.size
  have mv5 : ∀ (b : Nat) (v : Value) (l : List Int), w2.heap.size ≤ b → Ints b w5 v l → Ints b w9 v l := fun b v l hb hI => by
    have h6 : Ints b w6 v l := World.ownsRow.kept hI hg6 (by
      cases hv : v.ownBlock with
      | none => exact .inl rfl
      | some x => exact .inr (fun e => by have := Option.some.inj e; have := (Ints.lt hI x hv).1; omega))
    exact Ints.below hb69 h6 (fun x hx => (Ints.lt h6 x hx).2)
  have mv4 : ∀ (b : Nat) (v : Value) (l : List Int), w2.heap.size ≤ b → Ints b w4 v l → Ints b w9 v l := fun b v l hb hI => mv5 b v l hb (Ints.below hb5 hI (fun x hx => (Ints.lt hI x hx).2))
  have mv3 : ∀ (b : Nat) (v : Value) (l : List Int), w2.heap.size ≤ b → Ints b w3 v l → Ints b w9 v l := fun b v l hb hI => mv4 b v l hb (Ints.below hb4 hI (fun x hx => (Ints.lt hI x hx).2))
  have s23 := hb3.size
  have s34 := hb4.size
  have s45 := hb5.size
  have i1 := mv3 _ _ _ (Nat.le_refl _) I1.out
  have j1 := mv3 _ _ _ (Nat.le_refl _) J1.out
  have i2 := mv4 _ _ _ s23 I2.out
  have j2 := mv4 _ _ _ s23 J2.out
  have i3 := mv5 _ _ _ (Nat.le_trans s23 s34) I3.out
  have j3 := mv5 _ _ _ (Nat.le_trans s23 s34) J3.out
  have i4 := Ints.below hb79 I4.out (fun x hx => (Ints.lt I4.out x hx).2)
  have j4 := Ints.below hb79 J4.out (fun x hx => (Ints.lt J4.out x hx).2)
  have i5 := Ints.below hb9 I5.out (fun x hx => (Ints.lt I5.out x hx).2)
  have j5 := Ints.below hb9 J5.out (fun x hx => (Ints.lt J5.out x hx).2)
  have HT : Hid (∀ p ∈ [.slice pm1 mu1.length cm1, .slice py1 my1.length cy1, .slice pm2 mu2.length cm2, .slice py2 my2.length cy2, .slice pm3 mu3.length cm3, .slice py3 my3.length cy3].zip [.slice pm4 mu4.length cm4, .slice py4 my4.length cy4, .slice pm5 mu5.length cm5, .slice py5 my5.length cy5, .slice pm4 mu4.length cm4, .slice py4 my4.length cy4], Two w9 p) := by
    intro p hp
    simp only [List.zip_cons_cons, List.zip_nil_right, List.mem_cons, List.not_mem_nil, or_false] at hp
    obtain ⟨e1, e2⟩ := hE14
    obtain ⟨e3, e4⟩ := hE34
    obtain ⟨e5, e6⟩ := hE25
    rcases hp with rfl | rfl | rfl | rfl | rfl | rfl
    · exact ⟨_, _, mu1, i1, by rw [← e1]; exact i4, HL1.out⟩
    · exact ⟨_, _, my1, j1, by rw [← e2]; exact j4, ln1⟩
    · exact ⟨_, _, mu2, i2, by rw [← e5]; exact i5, HL2.out⟩
    · exact ⟨_, _, my2, j2, by rw [← e6]; exact j5, ln2⟩
    · exact ⟨_, _, mu3, i3, by rw [← e3]; exact i4, HL3.out⟩
    · exact ⟨_, _, my3, j3, by rw [← e4]; exact j4, ln3⟩
  have HAP : Hid (Apart [.slice pm1 mu1.length cm1, .slice py1 my1.length cy1, .slice pm2 mu2.length cm2, .slice py2 my2.length cy2, .slice pm3 mu3.length cm3, .slice py3 my3.length cy3]) := apart_of (by
    have r1 := fun g h => Ints.lt I1.out g h
    have r2 := fun g h => Ints.lt J1.out g h
    have r3 := fun g h => Ints.lt I2.out g h
    have r4 := fun g h => Ints.lt J2.out g h
    have r5 := fun g h => Ints.lt I3.out g h
    have r6 := fun g h => Ints.lt J3.out g h
    simp only [List.pairwise_cons, List.mem_cons, List.not_mem_nil, or_false, List.Pairwise.nil, and_true]
    refine ⟨?_, ?_, ?_, ?_, ?_, ?_⟩
    · rintro a (rfl | rfl | rfl | rfl | rfl) g' h e
      · exact A1.out g' h e
      · have := r1 g' h; have := r3 g' e; omega
      · have := r1 g' h; have := r4 g' e; omega
      · have := r1 g' h; have := r5 g' e; omega
      · have := r1 g' h; have := r6 g' e; omega
    · rintro a (rfl | rfl | rfl | rfl) g' h e
      · have := r2 g' h; have := r3 g' e; omega
      · have := r2 g' h; have := r4 g' e; omega
      · have := r2 g' h; have := r5 g' e; omega
      · have := r2 g' h; have := r6 g' e; omega
    · rintro a (rfl | rfl | rfl) g' h e
      · exact A2.out g' h e
      · have := r3 g' h; have := r5 g' e; omega
      · have := r3 g' h; have := r6 g' e; omega
    · rintro a (rfl | rfl) g' h e
      · have := r4 g' h; have := r5 g' e; omega
      · have := r4 g' h; have := r6 g' e; omega
    · rintro a rfl g' h e
      exact A3.out g' h e
    · intro a h
      exact h.elim)
  have HVS : Hid (∀ (i : Nat) (v : Value), [.slice pm1 mu1.length cm1, .slice py1 my1.length cy1, .slice pm2 mu2.length cm2, .slice py2 my2.length cy2, .slice pm3 mu3.length cm3, .slice py3 my3.length cy3][i]? = some v → ∃ l, Ints w2.heap.size w9 v l ∧ l.length ≤ 1000) := by
    intro i v hv
    have hm := List.mem_of_getElem? hv
    simp only [List.mem_cons, List.not_mem_nil, or_false] at hm
    rcases hm with rfl | rfl | rfl | rfl | rfl | rfl
    · exact ⟨mu1, Ints.base i1 (Nat.le_refl _), by have := HL1.out; omega⟩
    · exact ⟨my1, Ints.base j1 (Nat.le_refl _), by omega⟩
    · exact ⟨mu2, Ints.base i2 s23, by have := HL2.out; omega⟩
    · exact ⟨my2, Ints.base j2 s23, by omega⟩
    · exact ⟨mu3, Ints.base i3 (Nat.le_trans s23 s34), by have := HL3.out; omega⟩
    · exact ⟨my3, Ints.base j3 (Nat.le_trans s23 s34), by omega⟩
  have hlen : ([.slice pm1 mu1.length cm1, .slice py1 my1.length cy1, .slice pm2 mu2.length cm2, .slice py2 my2.length cy2, .slice pm3 mu3.length cm3, .slice py3 my3.length cy3] : List Value).length = 6 := rfl
  have hlenu : ([.slice pm4 mu4.length cm4, .slice py4 my4.length cy4, .slice pm5 mu5.length cm5, .slice py5 my5.length cy5, .slice pm4 mu4.length cm4, .slice py4 my4.length cy4] : List Value).length = 6 := rfl
  have HS2 : Hid (w2.heap.size ≤ w9.heap.size) := by have := hb68.size; have := hb9.size; show w2.heap.size ≤ w9.heap.size; omega
  have HS1 : Hid (W.heap.size ≤ w2.heap.size) := hB2.size
  have HB9 := Lib.hid hB9
  generalize hvs : ([.slice pm1 mu1.length cm1, .slice py1 my1.length cy1, .slice pm2 mu2.length cm2, .slice py2 my2.length cy2, .slice pm3 mu3.length cm3, .slice py3 my3.length cy3] : List Value) = vs at hgl HT HAP HVS hlen
  generalize hus : ([.slice pm4 mu4.length cm4, .slice py4 my4.length cy4, .slice pm5 mu5.length cm5, .slice py5 my5.length cy5, .slice pm4 mu4.length cm4, .slice py4 my4.length cy4] : List Value) = us at hgu HT hlenu
  have HGL := Lib.hid hgl
  have HGU := Lib.hid hgu
  clear hvs hus i1 j1 i2 j2 i3 j3 i4 j4 i5 j5 mv3 mv4 mv5 hE14 hE34 hE25 hgl hgu hB9
  go_loopw [27] (fun i wr => ∃ k : Nat, i = .int .i64 k ∧ k ≤ 6 ∧ ∃ qq, wr = w9.drewN qq) (fun i _ => 6 - (intOf i).toNat)
  case atStart => exact ⟨0, rfl, by omega, 0, rfl⟩
  case round =>
    obtain ⟨k, rfl, hk, qq, rfl⟩ := hrel
    by_cases hlt : k < 6
    · obtain ⟨v, hvk⟩ : ∃ v, vs[k]? = some v := ⟨_, List.getElem?_eq_getElem (by omega)⟩
      obtain ⟨u, huk⟩ : ∃ u, us[k]? = some u := ⟨_, List.getElem?_eq_getElem (by omega)⟩
      obtain ⟨b1, b2, l, hI, hJ, hl⟩ := HT.out (v, u) (by
        refine List.mem_of_getElem? (i := k) ?_
        rw [List.getElem?_zip_eq_some]
        exact ⟨hvk, huk⟩)
      obtain ⟨wq, hwq⟩ : ∃ x, w9.drewN qq = x := ⟨_, rfl⟩
      have HWQ := Lib.hid hwq
      have hS : ∀ n, Calls Try.prog 15 #[v, u] (wq.drewN n) fun r w' => r = .returned (.bool true) ∧ ∃ m, w' = (wq.drewN n).drewN m := fun n => by
        rw [← hwq]
        exact same_any b1 b2 v u l ((w9.drewN qq).drewN n) hI hJ (by omega)
      have cv : wq.cell? ⟨w8.heap.size, k, none⟩ = some v := by rw [← hwq]; exact cell_gl HGL.out hvk
      have cu : wq.cell? ⟨w8.heap.size + 1, k, none⟩ = some u := by rw [← hwq]; exact cell_gl HGU.out huk
      rw [hwq]
      clear hwq
      have hlti : (k : Int) < 6 := by omega
      clear hvk huk hI hJ
      go_wp2
      go_quiet (first | (go_at_call 15; refine Calls.quiet_of (hS _)))
      go_wp2
      exact ⟨⟨k + 1, by go_num, by omega, qq + nq, by rw [← HWQ.out, World.drewN_drewN]⟩, by simp [intOf]; omega⟩
    · obtain rfl : k = 6 := by omega
      have e6 : ((6 : Nat) : Int) = 6 := rfl
      rw [e6]
      have hOw := owned_any w2.heap.size w8.heap.size vs (w9.drewN qq) hlen HGL.out HVS.out HAP.out HS2.out
      go_wp2_with (first
        | (go_at_call 16; refine hOw.mono ?_; rintro r w10 ⟨rfl, hb10⟩)
        | go_in)
      go_ret
      exact ⟨rfl, (below_drewN HB9.out qq).trans (hb10.mono HS1.out)⟩

end Go.Proofs.Ytgincippgaecfaa.Au

namespace Go.Proofs.Ytgincippgaecfaa.lefts
open Go.ChangeShapes Go.WideShapes Go.ChangeAt Go.RowKit Go.ChangeMaps Go.Proofs.Ytgincippgaecfaa.Au

theorem readable : ∀ t ∈ [9, 23, 23], Try.prog.readableRec t = true ∧ t < Try.prog.types.size := by
  intro t ht
  simp only [List.mem_cons, List.not_mem_nil, or_false] at ht
  rcases ht with rfl | rfl | rfl <;> exact ⟨by kernel_rfl, of_decide_eq_true (by kernel_rfl)⟩
theorem own : ownKnob Try.prog.godebug = none := by kernel_rfl

set_option maxHeartbeats 800000 in
set_option maxRecDepth 100000 in
theorem lifted (os : Os) (started : os.Started) (H : Type) (enc : TypeId × Value → H) :
    ReturnsInHanded {} Try.checked os 4 .any (Rows.auditLeftsSpec.pre6 enc Try.prog Try.f4 Rows.auditLeftsRow.domain false) (Rows.auditLeftsSpec.post enc Try.prog Try.f4 false true false false) := by
  refine returnsInHanded_of_change_sized (C := Try.checked) own started (by kernel_rfl) Try.func4
    (ChangeSpec.witness6 (enc := enc) (C := Try.checked) false ⟨#[], #[.string ⟨#[]⟩, .slice none 0 0, .slice none 0 0], []⟩ 8 (by kernel_rfl) (by kernel_rfl) (by kernel_rfl) (by kernel_rfl)) ?_
  intro W base args ds gs before hval0 hW _ hsz0 _
  have hsz : (DataW.weightsEach Try.prog (Try.f4.params.toList ++ Rows.auditLeftsSpec.plain.varTypes Try.prog) (ds ++ gs)).all (· ≤ reachBytes) = true := hsz0
  clear hsz0
  have hval : ∀ (j : Nat) t v, Try.f4.params[j]? = some t → args[j]? = some v → Value.okWide Try.prog W .any base t v := hval0
  have hW' := hW
  obtain ⟨p, q, hA0, hV, rfl, hfz, _⟩ := hW
  have hA : DataW.TrodAll enc Try.prog W 0 (fun _ => true) true Try.f4.params.toList args.toList ds p := hA0
  have hlt : ∀ x ∈ p, x.block < W.heap.size := fun x hx => hW'.lt x (List.mem_append_left _ hx)
  rw [Try.params4] at hA hval hsz
  have hargs := fun (W' : World) (hb : Below W.heap.size W W') => below_trodAll laidOut hb (ts := [9, 23, 23]) readable hA hlt
  obtain ⟨v0, v1, v2, d0, d1, d2, p0, p1, p2, rfl, rfl, rfl, h0, h1, h2⟩ := trodAll_three hA
  obtain ⟨rfl, rfl⟩ := trodVars_none hV
  obtain ⟨s, rfl, rfl, rfl, hs⟩ := open_string Try.underlying9 (hval 0 9 v0 rfl rfl) h0
  obtain ⟨a1, len1, cap1, rfl⟩ := okWide_slice Try.underlying23 (hval 1 23 v1 rfl rfl)
  obtain ⟨a2, len2, cap2, rfl⟩ := okWide_slice Try.underlying23 (hval 2 23 v2 rfl rfl)
  obtain ⟨fuel1, hf1⟩ := h1
  obtain ⟨fuel2, hf2⟩ := h2
  obtain ⟨sv, es, hcs, hH, hfine, hcap, hx⟩ := open_hist hf1
  obtain ⟨so, eo, hcs2, hH2, hfine2, hcap2, _⟩ := open_hist hf2
  simp [Value.cells] at hcs hcs2
  subst hcs hcs2
  have hreach : es.length * 56 ≤ 140737488351232 := by
    rcases hx with ⟨_, rfl⟩ | ⟨l, r, rfl, hl⟩
    · simp
    · have := sized_slice hsz (j := 1) (t := 23) (e := 55) rfl rfl Try.underlying23
      rw [bytes55] at this
      simp only [reachBytes] at this
      omega
  clear hA0 hval0
  simp only [List.append_nil] at hW'
  refine (lefts_any _ _ es eo s W hH hH2 hreach (fun e he => (hfine e he).1) (fun e he => (hfine2 e he).1) hcap hcap2).mono fun e W' ⟨he, hnx⟩ => ?_
  subst he
  exact ⟨_, rfl, _, _, _, [], _, [], hW', trodAll_mk1 (shut_bool Try.underlying4 _), hargs W' hnx, rfl, hnx.frame _, fun h => by cases h⟩

theorem auditLefts_holds : Rows.AuditLeftsSaid :=
  OpenClaim.holds_of_wide 4 Try.f4 rfl rfl rfl rfl rfl rfl rfl ⟨rfl, rfl, rfl, rfl, rfl⟩ rfl rfl rfl rfl rfl (by kernel_rfl) Try.func4 (by kernel_rfl)
    (of_decide_eq_true (by kernel_rfl)) (by unfold Func.isWrapper; first | (rw [if_pos (by decide +kernel)]; kernel_rfl) | (rw [if_neg (by decide +kernel)]; exact ⟨rfl, rfl⟩))
    (fun os started H enc _ => lifted os started H enc)

#print axioms auditLefts_holds
end Go.Proofs.Ytgincippgaecfaa.lefts
