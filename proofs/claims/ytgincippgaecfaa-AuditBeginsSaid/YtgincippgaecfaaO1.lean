/-
  Order of the program at a good history: what it tells is the reference's answer. No condition but the reach.
-/
import Derived.Test.YtgincippgaecfaaM2
import Derived.Test.YtgincippgaecfaaB1
import Derived.Test.YtgincippgaecfaaL2
import Derived.Maps.AppendAt
import Derived.Sort.MapsRangeIn
namespace Go.Proofs.Ytgincippgaecfaa.Au
open Go Go.RowKit Go.Shelf Go.Maps

attribute [local go_sem] Oper.semAt_some

theorem run_mk (W : World) : (Instr.makeMap 63 none).run Try.prog W = .ok (.map (some W.heap.size)) (W.alloc (.map #[] 0)) := by
  exact run_makeMap _ _

/-- Between two rounds of the backward loop: the five boxes, the two maps, what lay below. -/
def OI (w : World) (S : Nat) (sv : Value) (es : List Ent) (q : ByteArray) (who : Int) (pre : List (Fin es.length)) (W : World) : Prop :=
  Boxed W w.heap.size 9 (.string q) ∧ Boxed W (w.heap.size + 1) 3 (.int .i64 who) ∧ Boxed W (S + 1 + 1) 63 (.map (some S)) ∧ Boxed W (S + 1 + 1 + 1) 63 (.map (some (S + 1))) ∧ Boxed W (S + 1 + 1 + 1 + 1) 23 sv ∧
  (∃ D : DU, W.ownsMap Try.prog 3 (plainElem Try.prog 3) S pre.length D ∧ Tells D (lastOf es (isSent q.toList) pre)) ∧
  (∃ D : DU, W.ownsMap Try.prog 3 (plainElem Try.prog 3) (S + 1) pre.length D ∧ Tells D (lastOf es (isGot q.toList who) pre)) ∧ Below w.heap.size w W

section
variable {w : World} {S : Nat} {sv : Value} {es : List Ent} {q : ByteArray} {who : Int} {pre : List (Fin es.length)} {W W' : World}

theorem OI.kept (h : OI w S sv es q who pre W) (hS : w.heap.size + 2 ≤ S) {row : Option Nat} (hg : W.grownBy W' row) (hr : ∀ r, row = some r → S + 5 ≤ r) : OI w S sv es q who pre W' := by
  obtain ⟨h1, h2, h3, h4, h5, ⟨D, h6, h7⟩, ⟨D', h8, h9⟩, h10⟩ := h
  exact ⟨h1.kept hg (fun e => by have := hr _ e.symm; omega), h2.kept hg (fun e => by have := hr _ e.symm; omega), h3.kept hg (fun e => by have := hr _ e.symm; omega), h4.kept hg (fun e => by have := hr _ e.symm; omega),
    h5.kept hg (fun e => by have := hr _ e.symm; omega), ⟨D, h6.kept hg (fun e => by have := hr _ e.symm; omega), h7⟩, ⟨D', h8.kept hg (fun e => by have := hr _ e.symm; omega), h9⟩,
    h10.grown hg h10.size (fun k e => by have := hr _ e; omega)⟩

theorem OI.own (hS : w.heap.size + 2 ≤ S) {B : Nat} (hB : S + 5 ≤ B) : OwnFrom B (OI w S sv es q who) := fun _ _ _ _ hs hg hr => OI.kept hs hS hg (fun r e => Nat.le_trans hB (hr r e).1)

theorem OI.pass (h : OI w S sv es q who pre W) (x : Fin es.length) {e : Ent} (he : es[x] = e) (h1 : ∀ m, isSent q.toList m e = false) (h2 : ∀ m, isGot q.toList who m e = false) : OI w S sv es q who (pre ++ [x]) W := by
  obtain ⟨b1, b2, b3, b4, b5, ⟨D, h6, h7⟩, ⟨D', h8, h9⟩, h10⟩ := h
  exact ⟨b1, b2, b3, b4, b5, ⟨D, h6.mono (by simp), h7.pass x he h1⟩, ⟨D', h8.mono (by simp), h9.pass x he h2⟩, h10⟩

theorem OI.sent (h : OI w S sv es q who pre W) (hS : w.heap.size + 2 ≤ S) (x : Fin es.length) {e : Ent} (he : es[x] = e) {D : DU} (hT : Tells D (lastOf es (isSent q.toList) pre)) (hg : W.grownBy W' (some S))
    (hown : W'.ownsMap Try.prog 3 (plainElem Try.prog 3) S (pre.length + 1) (D.put (.int .i64 e.msg) (.lit (.int .i64 (x.1 : Int))))) (h1 : ∀ m, isSent q.toList m e = decide (m = e.msg)) (h2 : ∀ m, isGot q.toList who m e = false) :
    OI w S sv es q who (pre ++ [x]) W' := by
  obtain ⟨b1, b2, b3, b4, b5, _, ⟨D', h8, h9⟩, h10⟩ := h
  exact ⟨b1.kept hg (fun e => by have := Option.some.inj e; omega), b2.kept hg (fun e => by have := Option.some.inj e; omega), b3.kept hg (fun e => by have := Option.some.inj e; omega), b4.kept hg (fun e => by have := Option.some.inj e; omega), b5.kept hg (fun e => by have := Option.some.inj e; omega),
    ⟨_, by simpa using hown, hT.round x he h1⟩, ⟨D', (h8.kept hg (fun e => by have := Option.some.inj e; omega)).mono (by simp), h9.pass x he h2⟩, h10.grown hg h10.size (fun k e => by have := Option.some.inj e; omega)⟩

theorem OI.got (h : OI w S sv es q who pre W) (hS : w.heap.size + 2 ≤ S) (x : Fin es.length) {e : Ent} (he : es[x] = e) {D : DU} (hT : Tells D (lastOf es (isGot q.toList who) pre)) (hg : W.grownBy W' (some (S + 1)))
    (hown : W'.ownsMap Try.prog 3 (plainElem Try.prog 3) (S + 1) (pre.length + 1) (D.put (.int .i64 e.msg) (.lit (.int .i64 (x.1 : Int))))) (h1 : ∀ m, isGot q.toList who m e = decide (m = e.msg)) (h2 : ∀ m, isSent q.toList m e = false) :
    OI w S sv es q who (pre ++ [x]) W' := by
  obtain ⟨b1, b2, b3, b4, b5, ⟨D', h8, h9⟩, _, h10⟩ := h
  exact ⟨b1.kept hg (fun e => by have := Option.some.inj e; omega), b2.kept hg (fun e => by have := Option.some.inj e; omega), b3.kept hg (fun e => by have := Option.some.inj e; omega), b4.kept hg (fun e => by have := Option.some.inj e; omega), b5.kept hg (fun e => by have := Option.some.inj e; omega),
    ⟨D', (h8.kept hg (fun e => by have := Option.some.inj e; omega)).mono (by simp), h9.pass x he h2⟩, ⟨_, by simpa using hown, hT.round x he h1⟩, h10.grown hg h10.size (fun k e => by have := Option.some.inj e; omega)⟩

end

theorem sent_no_q {q : List UInt8} {e : Ent} (h : (!e.queue.toList == q) = true) (m : Int) : isSent q m e = false := by
  simp only [Bool.not_eq_true'] at h
  simp [isSent, h]
theorem got_no_q {q : List UInt8} {who : Int} {e : Ent} (h : (!e.queue.toList == q) = true) (m : Int) : isGot q who m e = false := by
  simp only [Bool.not_eq_true'] at h
  simp [isGot, h]
theorem sent_no_k {q : List UInt8} {e : Ent} (h : (e.kind == 1) = false) (m : Int) : isSent q m e = false := by
  have : e.kind ≠ 1 := by simpa using h
  simp [isSent, this]
theorem got_of_sent {q : List UInt8} {who : Int} {e : Ent} (h : (e.kind == 1) = true) (m : Int) : isGot q who m e = false := by
  have : e.kind = 1 := by simpa using h
  simp [isGot, this]
theorem got_no_k {q : List UInt8} {who : Int} {e : Ent} (h : ¬ e.kind = 4) (m : Int) : isGot q who m e = false := by simp [isGot, h]
theorem got_no_w {q : List UInt8} {who : Int} {e : Ent} (h : (e.who == who) = false) (m : Int) : isGot q who m e = false := by
  have : e.who ≠ who := by simpa using h
  simp [isGot, this]
theorem sent_yes {q : List UInt8} {e : Ent} (hq : (!e.queue.toList == q) = false) (h : (e.kind == 1) = true) (m : Int) : isSent q m e = decide (m = e.msg) := by
  have : e.kind = 1 := by simpa using h
  have hq' : (e.queue.toList == q) = true := by simpa using hq
  rw [Bool.eq_iff_iff]
  simp only [isSent, this, hq', decide_true, Bool.true_and, decide_eq_true_eq]
  exact eq_comm
theorem got_yes {q : List UInt8} {who : Int} {e : Ent} (hq : (!e.queue.toList == q) = false) (h : e.kind = 4) (hw : (e.who == who) = true) (m : Int) : isGot q who m e = decide (m = e.msg) := by
  have hw' : e.who = who := by simpa using hw
  have hq' : (e.queue.toList == q) = true := by simpa using hq
  rw [Bool.eq_iff_iff]
  simp only [isGot, h, hw', hq', decide_true, Bool.true_and, Bool.and_true, decide_eq_true_eq]
  exact eq_comm

theorem info3 : (Try.prog.info? 3).map (fun i => (i.zero, i.size, i.bytes)) = some (some (.int .i64 0), 1, 8) := by kernel_rfl

/-- Between two rounds of the collecting loop. L: the list's box; L + 1: the range's own block; D: the deferred calls'. -/
def CI (w : World) (S L D nn : Nat) (DS DG : DU) (left : Lit → Bool) (cnt : Nat) (ss : List I64) (v : Value) (W : World) : Prop :=
  W.ranges Try.prog 3 (plainElem Try.prog 3) (S + 1) (L + 1) nn DG left cnt ∧ Boxed W (S + 1 + 1) 63 (.map (some S)) ∧ Boxed W (S + 1 + 1 + 1) 63 (.map (some (S + 1))) ∧ W.ownsMap Try.prog 3 (plainElem Try.prog 3) S nn DS ∧
  Boxed W L 33 v ∧ W.ownsRow L 3 1 v ss.length (ss.map encI) ∧ W.heap[D]? = some (.deferred (some [])) ∧ Below w.heap.size w W

section
variable {w : World} {S L D nn : Nat} {DS DG : DU} {left left' : Lit → Bool} {cnt cnt' : Nat} {ss : List I64} {v v' : Value} {W W' w1 : World}

theorem CI.next (h : CI w S L D nn DS DG left cnt ss v W) (hS : S + 5 ≤ D) (hD : D < L) (hw : w.heap.size ≤ S) (hrg : W'.ranges Try.prog 3 (plainElem Try.prog 3) (S + 1) (L + 1) nn DG left' cnt') (hg : W.grownBy W' (some (L + 1))) :
    CI w S L D nn DS DG left' cnt' ss v W' := by
  obtain ⟨h1, h2, h3, h4, h5, h6, h7, h8⟩ := h
  refine ⟨hrg, h2.kept hg (fun e => by have := Option.some.inj e; omega), h3.kept hg (fun e => by have := Option.some.inj e; omega), h4.kept hg (fun e => by have := Option.some.inj e; omega), h5.kept hg (fun e => by have := Option.some.inj e; omega),
    h6.kept hg (.inr (row_ne_iter h6 h1).symm), ?_, h8.grown hg h8.size (fun k e => by have := Option.some.inj e; omega)⟩
  rw [hg.block D (Array.getElem?_eq_some_iff.1 h7).1 (fun e => by have := Option.some.inj e; omega)]; exact h7

theorem CI.append (h : CI w S L D nn DS DG left cnt ss v W) (hS : S + 5 ≤ D) (hD : D < L) (hw : w.heap.size ≤ S) (x : I64) {tmp : Obj} (hown' : w1.ownsRow L 3 1 v' (ss.length + 1) (ss.map encI ++ [encI x])) (hgrow : (W.alloc tmp).grownBy w1 v.ownBlock) :
    CI w S L D nn DS DG left cnt (ss ++ [x]) v' (w1.setCell ⟨L, 0, none⟩ v') := by
  obtain ⟨h1, h2, h3, h4, h5, h6, h7, h8⟩ := h
  have hsz : L ≤ W.heap.size := Nat.le_of_lt h5.lt
  obtain ⟨a1, a2, a3, a4, a5⟩ := h5.appended (by decide) h6 hsz (Nat.le_refl _) hown' hgrow
  have hgs := grownBy_setCell' w1 L v'
  refine ⟨(((h1.alloc tmp).kept hgrow (row_ne_low h6 (by omega)) (row_ne_iter h6 h1)).kept hgs (fun e => by have := Option.some.inj e; omega) (fun e => by have := Option.some.inj e; omega)), ?_, ?_,
    (((h4.alloc tmp).kept hgrow (row_ne_low h6 (by omega))).kept hgs (fun e => by have := Option.some.inj e; omega)), a2, by simpa using a3, a4.same _ _ h7 rfl, h8.trans (a5.mono (by omega))⟩
  · exact (a5.block _ (by omega)).trans h2
  · exact (a5.block _ (by omega)).trans h3
end

/-- The frame of a round: the place, the boxed entry, what yield was handed. -/
abbrev frO (q : ByteArray) (who : Int) (sv : Value) (s S Bx : Nat) (i : Int) (ev : Value) : Array Value :=
  #[.string q, .int .i64 who, sv, .pointer (some ⟨s, 0, none⟩), .pointer (some ⟨s + 1, 0, none⟩), undef, .bool false, .int .i64 0, .int .i64 0, .pointer (some ⟨S + 1 + 1, 0, none⟩), .pointer (some ⟨S + 1 + 1 + 1, 0, none⟩),
    .int .i64 i, .pointer (some ⟨Bx, 0, none⟩), undef, undef, undef, undef, sv, .int .i64 0, .int .i64 0, .bool false, undef, .int .i64 who, .bool (decide (who < 1)), .bool (decide (who < 1)), .int .i64 who, .bool (decide (8 < who)),
    .bool (decide (who < 1) || decide (8 < who)), .map (some S), .map (some (S + 1)), sv, .func (.func 43) #[] #[.pointer (some ⟨S + 1 + 1 + 1 + 1, 0, none⟩)], .int .i64 i, ev,
    undef, undef, undef, undef, undef, undef, undef, undef, undef, undef, undef, undef, undef, undef, undef, undef, undef, undef, undef, undef, undef, undef, undef, undef, undef, undef, undef, undef, undef, undef, undef, undef, undef, undef, undef, undef, undef, undef, undef, undef, undef, undef, undef, undef, undef, undef, undef, undef, undef, undef, undef]

set_option maxRecDepth 100000 in
set_option maxHeartbeats 4000000 in
theorem order_good (n : Nat) (a : Option Addr) (cap : Nat) (es : List Ent) (who : Int) (q : ByteArray) (w : World) (hH : HistAt n w (.slice a es.length cap) es) (hn : n ≤ w.heap.size) (hlen : es.length ≤ 400) (h1 : 1 ≤ who) (h8 : who ≤ 8)
    (hh : Hid (histE es = 0)) (hwf : ∀ e ∈ es, (Lit.int .i64 e.msg).wf = true) :
    CallsIn Fence.wide 6 Try.prog 17 #[.string q, .int .i64 who, .slice a es.length cap] w fun e W' => e = .returned (.tuple #[.bool (orderR es q.toList who), .int .i64 0]) ∧ Below w.heap.size w W' := by
  have hmm := @run_makeMap Try.prog
  have HH := fun W h => Lib.hid (hH.below (B := W) (n := n) h)
  refine callsIn_of_wp_marks Try.func17 rfl trivial ?_ rfl
  simp only [Try.ntmps17, List.size_toArray, List.length_cons, List.length_nil, Nat.reduceAdd, Nat.reduceSub, Array.replicate_succ, Array.replicate_zero, List.push_toArray, List.append_toArray, List.nil_append, List.cons_append]
  have hA : ∀ W, Below w.heap.size w W → Calls Try.prog 20 #[.slice a es.length cap] W fun r w' => r = .returned (.int .i64 0) ∧ Below W.heap.size W w' := fun W hb => by
    have := amiss_any n _ es W (hH.below (hb.mono hn)) (Nat.le_trans hn hb.size)
    rw [hh.out] at this
    exact this
  have hB2 : Below w.heap.size w ((w.alloc (.cells #[.string q] 9)).alloc (.cells #[.int .i64 who] 3)) := ((Below.refl _ w).alloc (Nat.le_refl _) _).alloc (by simp) _
  have bQ0 := (Boxed.new w 9 (.string q)).alloc (.cells #[.int .i64 who] 3)
  have bW0 := Boxed.new (w.alloc (.cells #[.string q] 9)) 3 (.int .i64 who)
  have hA2 := hA _ hB2
  obtain ⟨W2, hW2⟩ : ∃ W2, (w.alloc (.cells #[.string q] 9)).alloc (.cells #[.int .i64 who] 3) = W2 := ⟨_, rfl⟩
  have hs2 : W2.heap.size = w.heap.size + 2 := by rw [← hW2]; simp
  simp only [World.size_alloc] at bW0
  rw [hW2] at hB2 bQ0 bW0 hA2
  have hT := fun W1 (h1 : Below W2.heap.size W2 W1) => Lib.hid (show Boxed W1 w.heap.size 9 (.string q) ∧ Boxed W1 (w.heap.size + 1) 3 (.int .i64 who) ∧ Below w.heap.size w W1 ∧ w.heap.size + 2 ≤ W1.heap.size from
    ⟨(h1.block _ (by omega)).trans bQ0, (h1.block _ (by omega)).trans bW0, hB2.trans (h1.mono (by omega)), by rw [← hs2]; exact h1.size⟩)
  clear hA bQ0 bW0 hB2
  have g20 : Fence.wide.fn 20 := trivial
  have g24 : Fence.wide.fn 24 := trivial
  have g28 : Fence.wide.fn 28 := trivial
  have g30 : Fence.wide.fn 30 := trivial
  gi_wp2_with (first
    | (gi_at_call 20; refine (callsIn_wide.2 hA2).mono ?_; rintro e w1 ⟨rfl, hb1⟩; obtain ⟨bQ1, bW1, hB1, hs1⟩ := (hT _ hb1).out; have cW := bW1.cell; clear hT hA2 hb1 hW2 hs2)
    | (gi_at_call 24; refine (backward_in Fence.wide (6 - 1) trivial rfl _ _ _ _).mono ?_; rintro e w' ⟨rfl, rfl⟩))
  have hsz := w1.heap.size
  obtain ⟨S, hS⟩ : ∃ S, w1.heap.size = S := ⟨_, rfl⟩
  have hB0 : Below w.heap.size w (((((w1.alloc (.map #[] 0)).alloc (.map #[] 0)).alloc (.cells #[.map (some w1.heap.size)] 63)).alloc (.cells #[.map (some (w1.heap.size + 1))] 63)).alloc (.cells #[.slice a es.length cap] 23)) :=
    ((((hB1.alloc (by omega) _).alloc (by simp; omega) _).alloc (by simp; omega) _).alloc (by simp; omega) _).alloc (by simp; omega) _
  have bQ := ((((bQ1.alloc (.map #[] 0)).alloc (.map #[] 0)).alloc (.cells #[.map (some w1.heap.size)] 63)).alloc (.cells #[.map (some (w1.heap.size + 1))] 63)).alloc (.cells #[.slice a es.length cap] 23)
  have bW := ((((bW1.alloc (.map #[] 0)).alloc (.map #[] 0)).alloc (.cells #[.map (some w1.heap.size)] 63)).alloc (.cells #[.map (some (w1.heap.size + 1))] 63)).alloc (.cells #[.slice a es.length cap] 23)
  have oS := ((((World.ownsMap_made w1 Try.prog 3 (plainElem (H := Unit) Try.prog 3)).alloc (.map #[] 0)).alloc (.cells #[.map (some w1.heap.size)] 63)).alloc (.cells #[.map (some (w1.heap.size + 1))] 63)).alloc (.cells #[.slice a es.length cap] 23)
  have oG := (((World.ownsMap_made (w1.alloc (.map #[] 0)) Try.prog 3 (plainElem (H := Unit) Try.prog 3)).alloc (.cells #[.map (some w1.heap.size)] 63)).alloc (.cells #[.map (some (w1.heap.size + 1))] 63)).alloc (.cells #[.slice a es.length cap] 23)
  have bS := ((Boxed.new ((w1.alloc (.map #[] 0)).alloc (.map #[] 0)) 63 (.map (some w1.heap.size))).alloc (.cells #[.map (some (w1.heap.size + 1))] 63)).alloc (.cells #[.slice a es.length cap] 23)
  have bG := (Boxed.new (((w1.alloc (.map #[] 0)).alloc (.map #[] 0)).alloc (.cells #[.map (some w1.heap.size)] 63)) 63 (.map (some (w1.heap.size + 1)))).alloc (.cells #[.slice a es.length cap] 23)
  have bV := Boxed.new ((((w1.alloc (.map #[] 0)).alloc (.map #[] 0)).alloc (.cells #[.map (some w1.heap.size)] 63)).alloc (.cells #[.map (some (w1.heap.size + 1))] 63)) 23 (.slice a es.length cap)
  have hsW : (((((w1.alloc (.map #[] 0)).alloc (.map #[] 0)).alloc (.cells #[.map (some w1.heap.size)] 63)).alloc (.cells #[.map (some (w1.heap.size + 1))] 63)).alloc (.cells #[.slice a es.length cap] 23)).heap.size = w1.heap.size + 5 := by simp
  simp only [World.size_alloc] at oG bS bG bV
  obtain ⟨W0, hW0⟩ : ∃ W0, ((((w1.alloc (.map #[] 0)).alloc (.map #[] 0)).alloc (.cells #[.map (some w1.heap.size)] 63)).alloc (.cells #[.map (some (w1.heap.size + 1))] 63)).alloc (.cells #[.slice a es.length cap] 23) = W0 := ⟨_, rfl⟩
  rw [hW0] at hB0 bQ bW oS oG bS bG bV hsW ⊢
  rw [hS] at oS oG bS bG bV hsW hs1 ⊢
  have h0 : OI w S (.slice a es.length cap) es q who [] W0 := ⟨bQ, bW, bS, bG, bV, ⟨_, oS, Tells.start⟩, ⟨_, oG, Tells.start⟩, hB0⟩
  have HV : HistAt w.heap.size W0 (.slice a es.length cap) es := (hH.below (hB0.mono hn)).mono hn
  clear oS oG bS bG bQ bW hW0 hS bQ1 bW1 hB1 cW hmm HH g20 g24
  refine wpIn_rangeFunc_ownH rfl (by decide) (gf := 43) (lb := #[.pointer (some ⟨S + 1 + 1 + 1 + 1, 0, none⟩)]) rfl trivial (enters_of Try.func43 (by kernel_rfl) rfl)
    (backward_stops Fence.wide (6 - 1) trivial rfl (by decide) (S + 1 + 1 + 1 + 1) w.heap.size _ es (by omega) W0 (by omega) (by omega) bV.cell HV) KeepB.trans (keepB_b (by omega) (by omega)) (Below.refl _ _) (fun _ => rfl)
    (OI w S (.slice a es.length cap) es q who) (fun _ _ _ => False) (OI.own hs1 (by omega)) (fun _ _ _ _ _ hs _ _ => hs) h0
    (fun x a' W => ∃ Bx, W.heap[Bx]? = some (.cells (es[x]).cells.toArray 55 (0, 0)) ∧ a' = { tmps := frO q who (.slice a es.length cap) w.heap.size S Bx x.1 (es[x]).val, defers := [] })
    ?hAx ?assign ?body ?done ?stop
  case hAx =>
    rintro x a' _ A B row ⟨Bx, hx, rfl⟩ hg hr
    refine ⟨Bx, (hg.block Bx (Array.getElem?_eq_some_iff.1 hx).1 (fun e => ?_)).trans hx, rfl⟩
    obtain ⟨_, o, ho, hc⟩ := hr _ e.symm
    rw [hx] at ho; cases ho; cases hc
  case assign =>
    rintro l pre x W K hI hK
    obtain ⟨e, he⟩ : ∃ e, es[x] = e := ⟨_, rfl⟩
    simp only [encB, he] at hK ⊢
    gi_wp2
    exact hK _ _ ((KeepsOthers.alloc _ _).from _) (KeepB.of_grown (World.grownBy_alloc W _ none) hI.2.2.2.2.2.2.2.size (fun k e => by cases e) hI.2.2.2.2.1.lt (by simp)) (hI.kept hs1 (World.grownBy_alloc W _ none) (fun k e => by cases e)) ⟨W.heap.size, World.alloc_heap_new W _, rfl⟩
  case body =>
    rintro l pre x a' W hl hrec hI ⟨Bx, hx, rfl⟩ hlt
    obtain ⟨e, he⟩ : ∃ e, es[x] = e := ⟨_, rfl⟩
    have wfk : (Lit.int .i64 e.msg).wf = true := hwf e (by rw [← he]; exact List.getElem_mem x.2)
    have hkey := keyOf_int_mk Try.underlying3 wfk
    have wfi : (Lit.int .i64 (x.1 : Int)).wf = true := WalkArith.wf_i64 (by have := x.2; omega)
    have hpl : pre.length < maxLen := by unfold maxLen; omega
    simp only [he] at hx ⊢
    have k0 : W.cell? ⟨Bx, 0, none⟩ = some (.int .i64 e.kind) := by simp [World.cell?, hx, Ent.cells]
    have k1 : W.cell? ⟨Bx, 1, none⟩ = some (.int .i64 e.who) := by simp [World.cell?, hx, Ent.cells]
    have k2 : W.cell? ⟨Bx, 2, none⟩ = some (.string e.queue) := by simp [World.cell?, hx, Ent.cells]
    have k3 : W.cell? ⟨Bx, 3, none⟩ = some (.int .i64 e.msg) := by simp [World.cell?, hx, Ent.cells]
    have cQ := hI.1.cell
    have cW := hI.2.1.cell
    have cS := hI.2.2.1.cell
    have cG := hI.2.2.2.1.cell
    obtain ⟨DS, oS, tS⟩ := hI.2.2.2.2.2.1
    obtain ⟨DG, oG, tG⟩ := hI.2.2.2.2.2.2.1
    have HI := Lib.hid hI
    have HX := Lib.hid hx
    have HE := Lib.hid he
    clear hI hx he
    gi_wp2_with (first
      | (gi_at_mapUpdate; refine wpListIn_mapUpdate_own _ rfl _ _ _ 63 rfl 3 3 law3 Try.underlying63 _ S pre.length _ rfl oS hpl _ _ _ rfl rfl hkey _ [] (plainElem_int Try.underlying3 wfi) ?_; intro w3 hown3 hgrow3)
      | (gi_at_mapUpdate; refine wpListIn_mapUpdate_own _ rfl _ _ _ 63 rfl 3 3 law3 Try.underlying63 _ (S + 1) pre.length _ rfl oG hpl _ _ _ rfl rfl hkey _ [] (plainElem_int Try.underlying3 wfi) ?_; intro w3 hown3 hgrow3))
    · exact ⟨KeepsFrom.refl _ _, KeepB.refl _ _ _, HI.out.pass x HE.out (sent_no_q (by assumption)) (got_no_q (by assumption))⟩
    · exact ⟨KeepsFrom.of_grownBy hgrow3 (fun j e => by have := Option.some.inj e; omega), KeepB.of_grown hgrow3 HI.out.2.2.2.2.2.2.2.size (fun j e => by have := Option.some.inj e; omega) HI.out.2.2.2.2.1.lt (fun e => by have := Option.some.inj e; omega),
        HI.out.sent hs1 x HE.out tS hgrow3 hown3 (sent_yes (by assumption) (by assumption)) (got_of_sent (by assumption))⟩
    · exact ⟨KeepsFrom.of_grownBy hgrow3 (fun j e => by have := Option.some.inj e; omega), KeepB.of_grown hgrow3 HI.out.2.2.2.2.2.2.2.size (fun j e => by have := Option.some.inj e; omega) HI.out.2.2.2.2.1.lt (fun e => by have := Option.some.inj e; omega),
        HI.out.got hs1 x HE.out tG hgrow3 hown3 (got_yes (by assumption) (by assumption) (by assumption)) (sent_no_k (by assumption))⟩
    · exact ⟨KeepsFrom.refl _ _, KeepB.refl _ _ _, HI.out.pass x HE.out (sent_no_k (by assumption)) (got_no_w (by assumption))⟩
    · exact ⟨KeepsFrom.refl _ _, KeepB.refl _ _ _, HI.out.pass x HE.out (sent_no_k (by assumption)) (got_no_k (by assumption))⟩
  case done =>
    rintro D ys W hD rfl hI hK
    obtain ⟨bQ, bW, bS, bG, bV, ⟨DS, oS, tS⟩, ⟨DG, oG, tG⟩, hB⟩ := hI
    have tS' := tS.congr (lastOf_sent es q.toList)
    have tG' := tG.congr (lastOf_got es q.toList who)
    have hDl : D < W.heap.size := (Array.getElem?_eq_some_iff.1 hK).1
    have hnn : (List.finRange es.length).reverse.length = es.length := by simp
    rw [hnn] at oS oG
    have hmx := oG.size_le
    have bL := Boxed.new W 33 (.slice none 0 0)
    have bS' := bS.alloc (.cells #[.slice none 0 0] 33)
    have bG' := bG.alloc (.cells #[.slice none 0 0] 33)
    have oS' := oS.alloc (.cells #[.slice none 0 0] 33)
    have oG' := oG.alloc (.cells #[.slice none 0 0] 33)
    have hB' := hB.alloc hB.size (.cells #[.slice none 0 0] 33)
    have hK' : (W.alloc (.cells #[.slice none 0 0] 33)).heap[D]? = some (.deferred (some [])) := by rw [Below.heap_alloc W _ D hDl]; exact hK
    have hsL : (W.alloc (.cells #[.slice none 0 0] 33)).heap.size = W.heap.size + 1 := by simp
    have cG := bG'.cell
    have hwS : w.heap.size ≤ S := by omega
    have hSD : S + 5 ≤ D := by omega
    clear tS tG bQ bW bV oS oG bS bG
    obtain ⟨i0, hi, hz0, hz1, hz2⟩ := info_parts info3
    gi_wp2_with (gi_at_range; refine wpListIn_range_own _ rfl _ 63 rfl 3 3 law3 Try.underlying63 _ (S + 1) _ _ rfl oG' ?_; intro w0 hrg0 hg0 hs0; rw [hsL] at hrg0 hs0 ⊢)
    go_frame
    have hC0 : CI w S W.heap.size D es.length DS DG (Maps.has DG) (Maps.size DG) [] (.slice none 0 0) w0 :=
      ⟨hrg0, bS'.kept hg0 (by simp), bG'.kept hg0 (by simp), oS'.kept hg0 (by simp), bL.kept hg0 (by simp), World.ownsRow_nil _ _ _ _, (hg0.block D (Array.getElem?_eq_some_iff.1 hK').1 (by simp)).trans hK', hB'.grown hg0 hB'.size (fun k e => by cases e)⟩
    clear hrg0 bL bS' bG' oS' oG' hB' hK' hsL cG hg0 hs0 hK hB h0 HV bV hB0 hD hsW hnn
    gi_loopw [14] (fun nv wr => ∃ left cnt ss v, CI w S W.heap.size D es.length DS DG left cnt ss v wr ∧ ss.length + cnt ≤ es.length ∧ Coll DG DS left ss) (fun _ wr => wr.rangeLeft (S + 1) (W.heap.size + 1))
    case atStart => exact ⟨_, _, [], _, hC0, by simpa using hmx, Coll.start DG DS⟩
    case round =>
      clear hC0
      obtain ⟨left, cnt, ss, v, hC, hcs, hCo⟩ := hrel
      obtain ⟨hrg, bS, bG, oS, bL, hrow, hK, hB⟩ := hC
      have HC : Hid (CI w S W.heap.size D es.length DS DG left cnt ss v wr) := ⟨hrg, bS, bG, oS, bL, hrow, hK, hB⟩
      have cL := bL.cell
      clear bS bG oS bL hK
      gi_wp2_with (first
        | (gi_at_next; go_must (refine wpListIn_next_ranges_ii _ rfl _ rfl 3 3 .i64 .i64 law3 Try.underlying3 Try.underlying3 (S + 1) (W.heap.size + 1) es.length _ _ _ rfl hrg ?_ ?_))
        | gi_in)
      · intro hc0 hl0
        obtain ⟨_, bS, bG, oS, bL, _, hK, _⟩ := HC.out
        have hsort := sort_any (S + 1 + 1 + 1) W.heap.size (S + 1) es.length W.heap.size DG (gotF es q.toList who) v ss wr (by omega) bG bL hrg.owns tG' hrow
        gi_wp2_with (first
          | (gi_at_call 28; refine (callsIn_wide.2 hsort).mono ?_; rintro e w5 ⟨rfl, ts, hp, hso, hrow5, hg5⟩
             have cL5 := (bL.kept hg5 (bL.not_row (by decide) hrow)).cell
             have hsd := sorted_any (S + 1 + 1) S es.length W.heap.size DS (sentF es q.toList) (fun m i hi => by have := ix_bound hi; omega) v ts w5 (by rw [hp.length_eq]; omega)
               (bS.kept hg5 (bS.not_row (by decide) hrow)) (oS.kept hg5 (row_ne_low hrow (by omega))) tS' (by rw [hp.length_eq]; exact hrow5))
          | (gi_at_call 30; refine (callsIn_wide.2 hsd).mono ?_; rintro e w6 ⟨rfl, hg6⟩; rw [order_end hwf tG' tS' hCo hl0 hp hso])
          | gi_in)
        have hne : some D ≠ v.ownBlock := row_ne_low hrow hDl
        have hK5 : w5.heap[D]? = some (.deferred (some [])) := (hg5.block D (Array.getElem?_eq_some_iff.1 hK).1 hne).trans hK
        have hK6 : w6.heap[D]? = some (.deferred (some [])) := (hg6.block D (Array.getElem?_eq_some_iff.1 hK5).1 hne).trans hK5
        have hB5 : Below w.heap.size w w5 := hB.grown hg5 hB.size (fun k e => by have := (hrow.lt k e).1; omega)
        have hB6 : Below w.heap.size w w6 := hB5.grown hg6 hB5.size (fun k e => by have := (hrow.lt k e).1; omega)
        refine ⟨by simp, .inl ⟨_, _, rfl, run_takeDeferred hK6, ?_⟩⟩
        refine ⟨.tuple #[.bool (orderR es q.toList who), .int .i64 0], ?_, rfl, hB6.trans (belowK_b (w := w) (Nat.le_refl _) w6 D _ _ (by omega) hK6 rfl rfl)⟩
        simp [results, Try.f17, go_sem]
      · intro x c w2 cnt2 hwx hwc hlk hat hrg2 hlt hg2 hs2 hen
        obtain ⟨_, bS2, bG2, oS2, bL2, hrow2, hK2, hB2⟩ := HC.out.next hSD hDl hwS hrg2 hg2
        have HC2 : Hid (CI w S W.heap.size D es.length DS DG _ cnt2 ss v w2) := ⟨hrg2, bS2, bG2, oS2, bL2, hrow2, hK2, hB2⟩
        have cS2 := bS2.cell
        have cL2 := bL2.cell
        have hkey := keyOf_int_mk Try.underlying3 hwx
        have hlen2 : ss.length + 1 ≤ maxLen := by unfold maxLen; omega
        have hbl : W.heap.size ≤ w2.heap.size := Nat.le_of_lt bL2.lt
        have hms := hrg.left_eq
        clear cL hrg HC hs2 bG2 hK2 hrow
        cases hb : Maps.has DS (.int .i64 x) with
        | true =>
          gi_wp2_with (first
            | (gi_at_lookup; refine wpListIn_lookup_own_ok_int _ rfl _ _ 63 rfl 3 3 .i64 law3 Try.underlying63 Try.underlying3 (Try.zeroValue3 _) S es.length DS rfl oS2 _ _ rfl hkey ?_; intro cc hat2 hwc2; rw [hb])
            | (gi_at_builtin; refine wpListIn_append_own _ rfl _ _ 33 rfl W.heap.size 3 i0 (.int .i64 0) 1 8 Try.underlying33 hi hz0 hz1 hz2 rfl (by decide) _ _ _ rfl (hrow2.alloc _) ⟨w2.heap.size, 0, none⟩ 1 1 [.int .i64 x] rfl rfl (cell_one_new _ _ _) (by simp [Value.oneCell']) hlen2 (by omega) (by simp; omega) ?_
               intro v' w3 hown' hgrow _; obtain ⟨g', cap', rfl⟩ := ownsRow_succ hown'; obtain ⟨hv1, hv2, hr3, hk3, hb3⟩ := bL2.appended (by decide) hrow2 hbl (Nat.le_refl _) hown' hgrow; have hc1 := hv1.cell; have hf1 := hv1.frozen)
            | gi_in)
          have HA := HC2.out.append hSD hDl hwS ⟨x, hwx⟩ hown' hgrow
          refine ⟨⟨_, cnt2, ss ++ [⟨x, hwx⟩], _, HA, by simp; omega, hCo.yes (x := ⟨x, hwx⟩) hlk hat hb⟩, ?_⟩
          rw [HA.1.left_eq, hms]; exact hlt
        | false =>
          gi_wp2_with (first
            | (gi_at_lookup; refine wpListIn_lookup_own_ok_int _ rfl _ _ 63 rfl 3 3 .i64 law3 Try.underlying63 Try.underlying3 (Try.zeroValue3 _) S es.length DS rfl oS2 _ _ rfl hkey ?_; intro cc hat2 hwc2; rw [hb])
            | gi_in)
          refine ⟨⟨_, cnt2, ss, v, HC2.out, by omega, hCo.no (x := ⟨x, hwx⟩) hb⟩, ?_⟩
          rw [hrg2.left_eq, hms]; exact hlt
  case stop =>
    rintro D c pre W _ _ h _
    exact h.elim

end Go.Proofs.Ytgincippgaecfaa.Au
