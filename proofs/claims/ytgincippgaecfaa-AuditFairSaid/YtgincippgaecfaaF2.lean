/-
  Left of the program at a good history: its walk. No condition but the reach.
-/
import Derived.Test.YtgincippgaecfaaF1
namespace Go.Proofs.Ytgincippgaecfaa.Au
open Go Go.RowKit Go.Shelf Go.Maps

attribute [local go_sem] Oper.semAt_some

/-- WHAT Left TELLS: what must be left, what may be, in two rows of the call's own. -/
def LeftAns (w : World) (es : List Ent) (q : ByteArray) (r : Ending) (W' : World) : Prop :=
  ∃ (vm vy : Value) (mu my : List Int), r = .returned (.tuple #[vm, vy, .int .i64 (histE es)]) ∧ Ints w.heap.size W' vm mu ∧ Ints w.heap.size W' vy my ∧ (∀ g, vm.ownBlock = some g → vy.ownBlock ≠ some g) ∧ Below w.heap.size w W' ∧ my.length ≤ 400 ∧
    (if histE es = 0 then MayL es q.toList my ∧ mu = mustOf es q.toList my else mu = [] ∧ my = [])

theorem Ints.shape {base : Nat} {W : World} {v : Value} {l : List Int} (h : Ints base W v l) : ∃ p c, v = .slice p l.length c := by
  rcases h.cases with ⟨rfl, rfl⟩ | ⟨g, cap, rfl, _⟩
  · exact ⟨_, _, rfl⟩
  · exact ⟨_, _, rfl⟩
theorem must_yes {l : List Int} {f : Int → Bool} {k : Nat} {m : Int} (h : l[k]? = some m) (hf : f m = true) : (l.take (k + 1)).filter f = (l.take k).filter f ++ [m] := by
  rw [List.take_add_one, h]; simp [hf]
theorem must_no {l : List Int} {f : Int → Bool} {k : Nat} {m : Int} (h : l[k]? = some m) (hf : f m = false) : (l.take (k + 1)).filter f = (l.take k).filter f := by
  rw [List.take_add_one, h]; simp [hf]
theorem may_wf {es : List Ent} {q : List UInt8} (hwf : ∀ e ∈ es, (Lit.int .i64 e.msg).wf = true) {m : Int} (h : es.any (isSent q m) = true) : (Lit.int .i64 m).wf = true := by
  obtain ⟨e, he, hs⟩ := List.any_eq_true.1 h
  have : e.msg = m := by simp [isSent] at hs; exact hs.2
  rw [← this]; exact hwf e he

/-- The frame of a round. -/
abbrev frL (q : ByteArray) (sv : Value) (s S Bx : Nat) (i : Int) (ev : Value) : Array Value :=
  #[.string q, sv, .pointer (some ⟨s, 0, none⟩), undef, .slice none 0 0, .slice none 0 0, .int .i64 0, .int .i64 0, .pointer (some ⟨S + 1 + 1, 0, none⟩), .pointer (some ⟨S + 1 + 1 + 1, 0, none⟩), .pointer (some ⟨S + 1 + 1 + 1 + 1, 0, none⟩),
    undef, .pointer (some ⟨Bx, 0, none⟩), undef, undef, undef, undef, sv, .int .i64 0, .int .i64 0, .bool false, undef, .map (some S), .map (some (S + 1)), sv, .func (.func 43) #[] #[.pointer (some ⟨S + 1 + 1 + 1 + 1 + 1, 0, none⟩)],
    .int .i64 i, ev, undef, undef, undef, undef, undef, undef, undef, undef, undef, undef, undef, undef, undef, undef, undef, undef, undef, undef, undef, undef, undef, undef, undef, undef, undef, undef, undef, undef, undef, undef, undef, undef, undef, undef, undef, undef, undef, undef, undef, undef, undef, undef, undef, undef, undef, undef, undef, undef, undef, undef, undef, undef, undef, undef, undef, undef, undef, undef, undef, undef, undef, undef, undef, undef, undef, undef, undef, undef, undef, undef]

theorem lsent_no_k {q : List UInt8} {e : Ent} (h : ¬ e.kind = 1) (m : Int) : isSent q m e = false := by simp [isSent, h]
theorem lsent_no_q {q : List UInt8} {e : Ent} (h : (e.queue.toList == q) = false) (m : Int) : isSent q m e = false := by simp [isSent, h]
theorem lsent_yes {q : List UInt8} {e : Ent} (hk : e.kind = 1) (h : (e.queue.toList == q) = true) (m : Int) : isSent q m e = decide (m = e.msg) := by
  rw [Bool.eq_iff_iff]
  simp only [isSent, hk, h, decide_true, Bool.true_and, decide_eq_true_eq]
  exact eq_comm
theorem ldlt_none {q : List UInt8} {e : Ent} {b : Bool} (h4 : ¬ e.kind = 4) (h2 : ¬ e.kind = 2) (m : Int) : dlt q e b m = 0 := by simp [dlt, gotE, takE, h4, h2]
theorem ldlt_q {q : List UInt8} {e : Ent} {b : Bool} (h4 : ¬ e.kind = 4) (h : (e.queue.toList == q) = false) (m : Int) : dlt q e b m = 0 := by simp [dlt, gotE, takE, h4, h]
theorem ldlt_late {q : List UInt8} {e : Ent} {b : Bool} (h4 : ¬ e.kind = 4) (hd : e.dur = false) (hb : b = true) (m : Int) : dlt q e b m = 0 := by simp [dlt, gotE, h4, hd, hb]
theorem ldlt_got {q : List UInt8} {e : Ent} {b : Bool} (h4 : e.kind = 4) (m : Int) : dlt q e b m = if m = e.msg then -1 else 0 := by
  by_cases hm : m = e.msg
  · simp [dlt, gotE, h4, hm]
  · have hm' : ¬ e.msg = m := fun e' => hm e'.symm
    simp [dlt, gotE, takE, h4, hm, hm']
theorem ldlt_take {q : List UInt8} {e : Ent} {b : Bool} (h2 : e.kind = 2) (h : (e.queue.toList == q) = true) (hd : e.dur = true ∨ b = false) (m : Int) : dlt q e b m = if m = e.msg then 1 else 0 := by
  have h' : (e.dur || !b) = true := by rcases hd with h | h <;> simp [h]
  by_cases hm : m = e.msg
  · simp [dlt, gotE, takE, h2, hm, h, h']
  · have hm' : ¬ e.msg = m := fun e' => hm e'.symm
    simp [dlt, gotE, takE, h2, hm, hm']
theorem lcrash_no {e : Ent} (h : ¬ e.kind = 7) : crashE e = false := by simp [crashE, h]

set_option maxRecDepth 100000 in
set_option maxHeartbeats 4000000 in
theorem left_good (n : Nat) (a : Option Addr) (cap : Nat) (es : List Ent) (q : ByteArray) (w : World) (hH : HistAt n w (.slice a es.length cap) es) (hn : n ≤ w.heap.size) (hlen : es.length ≤ 400)
    (hh : Hid (histE es = 0)) (hwf : ∀ e ∈ es, (Lit.int .i64 e.msg).wf = true) :
    CallsIn Fence.wide 6 Try.prog 13 #[.string q, .slice a es.length cap] w (LeftAns w es q) := by
  have hmm := @run_makeMap Try.prog
  refine callsIn_of_wp_marks Try.func13 rfl trivial ?_ rfl
  simp only [Try.ntmps13, List.size_toArray, List.length_cons, List.length_nil, Nat.reduceAdd, Nat.reduceSub, Array.replicate_succ, Array.replicate_zero, List.push_toArray, List.append_toArray, List.nil_append, List.cons_append]
  have hB2 : Below w.heap.size w (w.alloc (.cells #[.string q] 9)) := (Below.refl _ w).alloc (Nat.le_refl _) _
  have hA2 : Calls Try.prog 20 #[.slice a es.length cap] (w.alloc (.cells #[.string q] 9)) fun r w' => r = .returned (.int .i64 0) ∧ Below (w.alloc (.cells #[.string q] 9)).heap.size (w.alloc (.cells #[.string q] 9)) w' := by
    have := amiss_any n _ es _ (hH.below (hB2.mono hn)) (Nat.le_trans hn hB2.size)
    rw [hh.out] at this
    exact this
  have bQ0 := Boxed.new w 9 (.string q)
  obtain ⟨W2, hW2⟩ : ∃ W2, w.alloc (.cells #[.string q] 9) = W2 := ⟨_, rfl⟩
  have hs2 : W2.heap.size = w.heap.size + 1 := by rw [← hW2]; simp
  rw [hW2] at hB2 bQ0 hA2
  have hT := fun W1 (h1 : Below W2.heap.size W2 W1) => Lib.hid (show Boxed W1 w.heap.size 9 (.string q) ∧ Below w.heap.size w W1 ∧ w.heap.size + 1 ≤ W1.heap.size from
    ⟨(h1.block _ (by omega)).trans bQ0, hB2.trans (h1.mono (by omega)), by rw [← hs2]; exact h1.size⟩)
  clear bQ0 hB2
  have g20 : Fence.wide.fn 20 := trivial
  have g24 : Fence.wide.fn 24 := trivial
  have g25 : Fence.wide.fn 25 := trivial
  gi_wp2_with (first
    | (gi_at_call 20; refine (callsIn_wide.2 hA2).mono ?_; rintro e w1 ⟨rfl, hb1⟩; obtain ⟨bQ1, hB1, hs1⟩ := (hT _ hb1).out; clear hT hA2 hb1 hW2 hs2)
    | (gi_at_call 24; refine (backward_in Fence.wide (6 - 1) trivial rfl _ _ _ _).mono ?_; rintro e w' ⟨rfl, rfl⟩))
  obtain ⟨S, hS⟩ : ∃ S, w1.heap.size = S := ⟨_, rfl⟩
  have hB0 : Below w.heap.size w ((((((w1.alloc (.map #[] 0)).alloc (.map #[] 0)).alloc (.cells #[.map (some w1.heap.size)] 63)).alloc (.cells #[.map (some (w1.heap.size + 1))] 64)).alloc (.cells #[.bool false] 4)).alloc (.cells #[.slice a es.length cap] 23)) :=
    (((((hB1.alloc (by omega) _).alloc (by simp; omega) _).alloc (by simp; omega) _).alloc (by simp; omega) _).alloc (by simp; omega) _).alloc (by simp; omega) _
  have bQ := (((((bQ1.alloc (.map #[] 0)).alloc (.map #[] 0)).alloc (.cells #[.map (some w1.heap.size)] 63)).alloc (.cells #[.map (some (w1.heap.size + 1))] 64)).alloc (.cells #[.bool false] 4)).alloc (.cells #[.slice a es.length cap] 23)
  have oS := (((((World.ownsMap_made w1 Try.prog 3 (plainElem (H := Unit) Try.prog 3)).alloc (.map #[] 0)).alloc (.cells #[.map (some w1.heap.size)] 63)).alloc (.cells #[.map (some (w1.heap.size + 1))] 64)).alloc (.cells #[.bool false] 4)).alloc (.cells #[.slice a es.length cap] 23)
  have oG := ((((World.ownsMap_made (w1.alloc (.map #[] 0)) Try.prog 3 (plainElem (H := Unit) Try.prog 3)).alloc (.cells #[.map (some w1.heap.size)] 63)).alloc (.cells #[.map (some (w1.heap.size + 1))] 64)).alloc (.cells #[.bool false] 4)).alloc (.cells #[.slice a es.length cap] 23)
  have bS := (((Boxed.new ((w1.alloc (.map #[] 0)).alloc (.map #[] 0)) 63 (.map (some w1.heap.size))).alloc (.cells #[.map (some (w1.heap.size + 1))] 64)).alloc (.cells #[.bool false] 4)).alloc (.cells #[.slice a es.length cap] 23)
  have bG := ((Boxed.new (((w1.alloc (.map #[] 0)).alloc (.map #[] 0)).alloc (.cells #[.map (some w1.heap.size)] 63)) 64 (.map (some (w1.heap.size + 1)))).alloc (.cells #[.bool false] 4)).alloc (.cells #[.slice a es.length cap] 23)
  have bC := (Boxed.new ((((w1.alloc (.map #[] 0)).alloc (.map #[] 0)).alloc (.cells #[.map (some w1.heap.size)] 63)).alloc (.cells #[.map (some (w1.heap.size + 1))] 64)) 4 (.bool false)).alloc (.cells #[.slice a es.length cap] 23)
  have bV := Boxed.new (((((w1.alloc (.map #[] 0)).alloc (.map #[] 0)).alloc (.cells #[.map (some w1.heap.size)] 63)).alloc (.cells #[.map (some (w1.heap.size + 1))] 64)).alloc (.cells #[.bool false] 4)) 23 (.slice a es.length cap)
  have hsW : ((((((w1.alloc (.map #[] 0)).alloc (.map #[] 0)).alloc (.cells #[.map (some w1.heap.size)] 63)).alloc (.cells #[.map (some (w1.heap.size + 1))] 64)).alloc (.cells #[.bool false] 4)).alloc (.cells #[.slice a es.length cap] 23)).heap.size = w1.heap.size + 6 := by simp
  simp only [World.size_alloc] at oG bS bG bC bV
  obtain ⟨W0, hW0⟩ : ∃ W0, (((((w1.alloc (.map #[] 0)).alloc (.map #[] 0)).alloc (.cells #[.map (some w1.heap.size)] 63)).alloc (.cells #[.map (some (w1.heap.size + 1))] 64)).alloc (.cells #[.bool false] 4)).alloc (.cells #[.slice a es.length cap] 23) = W0 := ⟨_, rfl⟩
  rw [hW0] at hB0 bQ oS oG bS bG bC bV hsW ⊢
  rw [hS] at oS oG bS bG bC bV hsW hs1 ⊢
  have h0 : LI w S (.slice a es.length cap) es q [] W0 := ⟨bQ, bS, bG, bC, bV, ⟨_, oS, HasS.start _⟩, ⟨_, oG, ReadsM.start _⟩, hB0⟩
  have HV : HistAt w.heap.size W0 (.slice a es.length cap) es := (hH.below (hB0.mono hn)).mono hn
  clear oS oG bS bG bC bQ hW0 hS bQ1 hB1 hmm g20 g24
  refine wpIn_rangeFunc_ownH rfl (by decide) (gf := 43) (lb := #[.pointer (some ⟨S + 1 + 1 + 1 + 1 + 1, 0, none⟩)]) rfl trivial (enters_of Try.func43 (by kernel_rfl) rfl)
    (backward_stops Fence.wide (6 - 1) trivial rfl (by decide) (S + 1 + 1 + 1 + 1 + 1) w.heap.size _ es (by omega) W0 (by omega) (by omega) bV.cell HV) KeepB.trans (keepB_b (by omega) (by omega)) (Below.refl _ _) (fun _ => rfl)
    (LI w S (.slice a es.length cap) es q) (fun _ _ _ => False) (LI.own hs1 (by omega)) (fun _ _ _ _ _ hs _ _ => hs) h0
    (fun x a' W => ∃ Bx, W.heap[Bx]? = some (.cells (es[x]).cells.toArray 55 (0, 0)) ∧ a' = { tmps := frL q (.slice a es.length cap) w.heap.size S Bx x.1 (es[x]).val, defers := [] })
    ?hAx ?assign ?body ?done ?stop
  case hAx =>
    rintro x a' _ A B row ⟨Bx, hx, rfl⟩ hg hr
    refine ⟨Bx, (hg.block Bx (Array.getElem?_eq_some_iff.1 hx).1 (fun e => ?_)).trans hx, rfl⟩
    obtain ⟨_, o, ho, hc⟩ := hr _ e.symm
    rw [hx] at ho; cases ho; cases hc
  case assign =>
    rintro l pre x W K hI hK
    obtain ⟨e, he⟩ : ∃ e, es[x] = e := ⟨_, rfl⟩
    simp only [encB, he] at hK ⊢
    gi_wp2
    exact hK _ _ ((KeepsOthers.alloc _ _).from _) (KeepB.of_grown (World.grownBy_alloc W _ none) hI.2.2.2.2.2.2.2.size (fun k e => by cases e) hI.2.2.2.2.1.lt (by simp)) (hI.kept hs1 (World.grownBy_alloc W _ none) (fun k e => by cases e)) ⟨W.heap.size, World.alloc_heap_new W _, rfl⟩
  case body =>
    rintro l pre x a' W hl hrec hI ⟨Bx, hx, rfl⟩ hlt
    obtain ⟨e, he⟩ : ∃ e, es[x] = e := ⟨_, rfl⟩
    have wfk : (Lit.int .i64 e.msg).wf = true := hwf e (by rw [← he]; exact List.getElem_mem x.2)
    have hkey := keyOf_int_mk Try.underlying3 wfk
    have hpl : pre.length < maxLen := by unfold maxLen; omega
    simp only [he] at hx ⊢
    have k0 : W.cell? ⟨Bx, 0, none⟩ = some (.int .i64 e.kind) := by simp [World.cell?, hx, Ent.cells]
    have k2 : W.cell? ⟨Bx, 2, none⟩ = some (.string e.queue) := by simp [World.cell?, hx, Ent.cells]
    have k3 : W.cell? ⟨Bx, 3, none⟩ = some (.int .i64 e.msg) := by simp [World.cell?, hx, Ent.cells]
    have k5 : W.cell? ⟨Bx, 5, none⟩ = some (.bool e.dur) := by simp [World.cell?, hx, Ent.cells]
    have cQ := hI.1.cell
    have cS := hI.2.1.cell
    have cG := hI.2.2.1.cell
    have cC := hI.2.2.2.1.cell
    have fC := hI.2.2.2.1.frozen
    obtain ⟨DS, oS, tS⟩ := hI.2.2.2.2.2.1
    obtain ⟨DG, oG, tG⟩ := hI.2.2.2.2.2.2.1
    obtain ⟨cr, hcr⟩ : ∃ b, (came es pre).any crashE = b := ⟨_, rfl⟩
    rw [hcr] at cC
    have HI := Lib.hid hI
    have HX := Lib.hid hx
    have HE := Lib.hid he
    have HC := Lib.hid hcr
    clear hI hx he hcr
    gi_wp2_with (first
      | (gi_at_lookup; refine wpListIn_lookup_own_int _ rfl _ _ 63 rfl 3 3 .i64 law3k Try.underlying63 Try.underlying3 (Try.zeroValue3 _) S pre.length _ rfl oS _ _ rfl hkey ?_; intro c hat hwc)
      | (gi_at_lookup; refine wpListIn_lookup_own_int _ rfl _ _ 64 rfl 3 3 .i64 law3k Try.underlying64 Try.underlying3 (Try.zeroValue3 _) (S + 1) pre.length _ rfl oG _ _ rfl hkey ?_; intro c hat hwc)
      | (gi_at_mapUpdate; refine wpListIn_mapUpdate_own _ rfl _ _ _ 63 rfl 3 3 law3k Try.underlying63 _ S pre.length _ rfl oS hpl _ _ _ rfl rfl hkey _ [] (plainElem_int Try.underlying3 (wrap64_wf _)) ?_; intro w3 hown3 hgrow3)
      | (gi_at_mapUpdate; refine wpListIn_mapUpdate_own _ rfl _ _ _ 64 rfl 3 3 law3k Try.underlying64 _ (S + 1) pre.length _ rfl oG hpl _ _ _ rfl rfl hkey _ [] (plainElem_int Try.underlying3 (wrap64_wf _)) ?_; intro w3 hown3 hgrow3))
    · have h7 : e.kind = 7 := by simpa using ‹(e.kind == 7) = true›
      have hgc := grownBy_setCell' W (S + 1 + 1 + 1 + 1) (.bool true)
      exact ⟨KeepsFrom.of_grownBy hgc (fun j e => by have := Option.some.inj e; omega), KeepB.of_grown hgc HI.out.2.2.2.2.2.2.2.size (fun j e => by have := Option.some.inj e; omega) HI.out.2.2.2.2.1.lt (fun e => by have := Option.some.inj e; omega),
        HI.out.crash hs1 x HE.out (by simp [crashE, h7]) (lsent_no_k (by omega)) (ldlt_none (by omega) (by omega))⟩
    · have h4 : e.kind = 4 := by simpa using ‹(e.kind == 4) = true›
      exact ⟨KeepsFrom.of_grownBy hgrow3 (fun j e => by have := Option.some.inj e; omega), KeepB.of_grown hgrow3 HI.out.2.2.2.2.2.2.2.size (fun j e => by have := Option.some.inj e; omega) HI.out.2.2.2.2.1.lt (fun e => by have := Option.some.inj e; omega),
        HI.out.more hs1 (by omega) x HE.out tG hgrow3 hown3 (.inr rfl) hat rfl (lcrash_no (by omega)) (lsent_no_k (by omega)) (ldlt_got h4)⟩
    · have h1 : e.kind = 1 := by assumption
      exact ⟨KeepsFrom.of_grownBy hgrow3 (fun j e => by have := Option.some.inj e; omega), KeepB.of_grown hgrow3 HI.out.2.2.2.2.2.2.2.size (fun j e => by have := Option.some.inj e; omega) HI.out.2.2.2.2.1.lt (fun e => by have := Option.some.inj e; omega),
        HI.out.sent hs1 x HE.out tS hgrow3 hown3 (lcrash_no (by omega)) (lsent_yes h1 (by assumption)) (ldlt_none (by omega) (by omega))⟩
    · have h1 : e.kind = 1 := by assumption
      exact ⟨KeepsFrom.refl _ _, KeepB.refl _ _ _, HI.out.pass x HE.out (lcrash_no (by omega)) (lsent_no_q (by assumption)) (ldlt_none (by omega) (by omega))⟩
    · have h2 : e.kind = 2 := by assumption
      have hq : (e.queue.toList == q.toList) = true := by simpa using ‹e.queue.toList = q.toList›
      exact ⟨KeepsFrom.of_grownBy hgrow3 (fun j e => by have := Option.some.inj e; omega), KeepB.of_grown hgrow3 HI.out.2.2.2.2.2.2.2.size (fun j e => by have := Option.some.inj e; omega) HI.out.2.2.2.2.1.lt (fun e => by have := Option.some.inj e; omega),
        HI.out.more hs1 (by omega) x HE.out tG hgrow3 hown3 (.inl rfl) hat rfl (lcrash_no (by omega)) (lsent_no_k (by omega)) (ldlt_take h2 hq (.inl (by assumption)))⟩
    · have h2 : e.kind = 2 := by assumption
      have hq : (e.queue.toList == q.toList) = true := by simpa using ‹e.queue.toList = q.toList›
      have hcr : cr = false := by simpa using ‹(!cr) = true›
      exact ⟨KeepsFrom.of_grownBy hgrow3 (fun j e => by have := Option.some.inj e; omega), KeepB.of_grown hgrow3 HI.out.2.2.2.2.2.2.2.size (fun j e => by have := Option.some.inj e; omega) HI.out.2.2.2.2.1.lt (fun e => by have := Option.some.inj e; omega),
        HI.out.more hs1 (by omega) x HE.out tG hgrow3 hown3 (.inl rfl) hat rfl (lcrash_no (by omega)) (lsent_no_k (by omega)) (ldlt_take h2 hq (.inr (HC.out.trans hcr)))⟩
    · have h2 : e.kind = 2 := by assumption
      have hcr : cr = true := by simpa using ‹(!cr) = false›
      have hd : e.dur = false := by simpa using ‹¬ e.dur = true›
      exact ⟨KeepsFrom.refl _ _, KeepB.refl _ _ _, HI.out.pass x HE.out (lcrash_no (by omega)) (lsent_no_k (by omega)) (ldlt_late (by omega) hd (HC.out.trans hcr))⟩
    · have h2 : e.kind = 2 := by assumption
      have hq : (e.queue.toList == q.toList) = false := by simpa using ‹¬ e.queue.toList = q.toList›
      exact ⟨KeepsFrom.refl _ _, KeepB.refl _ _ _, HI.out.pass x HE.out (lcrash_no (by omega)) (lsent_no_k (by omega)) (ldlt_q (by omega) hq)⟩
    · have n7 : ¬ e.kind = 7 := by simpa using ‹(e.kind == 7) = false›
      have n4 : ¬ e.kind = 4 := by simpa using ‹(e.kind == 4) = false›
      exact ⟨KeepsFrom.refl _ _, KeepB.refl _ _ _, HI.out.pass x HE.out (lcrash_no n7) (lsent_no_k (by assumption)) (ldlt_none n4 (by assumption))⟩
  case done =>
    rintro D ys W hD rfl hI hK
    obtain ⟨_, bS, bG, _, _, ⟨DS, oS, tS⟩, ⟨DG, oG, tG⟩, hB⟩ := hI
    rw [came_all] at tS tG
    have hDl : D < W.heap.size := (Array.getElem?_eq_some_iff.1 hK).1
    have hnn : (List.finRange es.length).reverse.length = es.length := by simp
    rw [hnn] at oS oG
    have hk := keys_any S es.length DS W oS (Nat.le_trans oS.size_le (by omega))
    have hsz := oS.size_le
    have cS := bS.cell
    have hwS : w.heap.size ≤ W.heap.size := hB.size
    obtain ⟨i0, hi, hz0, hz1, hz2⟩ := info_parts info3'
    gi_wp2_with (gi_at_call 25; refine (callsIn_wide.2 hk).mono ?_; clear hk; rintro e w5 ⟨v, l, rfl, hi5, hasc, hmem, hll, hb5⟩
                 obtain ⟨p, c5, rfl⟩ := hi5.shape
                 have hK5 := (hb5.block D hDl).trans hK
                 have bG5 : Boxed w5 (S + 1 + 1 + 1) 64 (.map (some (S + 1))) := (hb5.block _ bG.lt).trans bG
                 have oG5 := ownsMap_below hb5 oG oG.lt
                 have hB5 := hB.trans (hb5.mono hB.size)
                 have hl1 : l.length ≤ 400 := by omega
                 have hW5 : w.heap.size ≤ W.heap.size := hB.size
                 have HM : Hid (MayL es q.toList l) := ⟨hasc, fun m => by rw [hmem m, tS.2 m]⟩
                 have HG := Lib.hid tG
                 have HI5 := Lib.hid hi5
                 have HB5 := Lib.hid hB5
                 have HK5 := Lib.hid hK5
                 clear bS bG oS oG hK cS hb5 hll hmem hasc tS tG hB hwS hi5 hB5 hK5)
    clear HV h0 bV
    gi_loopw [14, 83] (fun vm i wr => ∃ (k : Nat) (mu : List Int), i = .int .i64 k ∧ k ≤ l.length ∧ mu = (l.take k).filter (fun m => decide (0 < moreL q.toList es m)) ∧ Ints w5.heap.size wr vm mu ∧ Below w5.heap.size w5 wr) (fun _ i _ => l.length - (intOf i).toNat)
    case atStart => exact ⟨0, [], rfl, Nat.zero_le _, rfl, Ints.nil _ _, Below.refl _ _⟩
    case round =>
      obtain ⟨k, mu, rfl, hk, hmu, hrow, hbw⟩ := hrel
      have bGr : Boxed wr (S + 1 + 1 + 1) 64 (.map (some (S + 1))) := (hbw.block _ bG5.lt).trans bG5
      have cG := bGr.cell
      clear bGr
      have oGr := ownsMap_below hbw oG5 oG5.lt
      have hws := hbw.size
      have hml : mu.length ≤ 400 := by
        have := List.length_filter_le (fun m => decide (0 < moreL q.toList es m)) (l.take k)
        rw [← hmu] at this
        simp at this
        omega
      have hm1 : mu.length + 1 ≤ maxLen := by unfold maxLen; omega
      by_cases hlt : k < l.length
      · obtain ⟨m, hm⟩ : ∃ m, l[k]? = some m := ⟨_, List.getElem?_eq_getElem hlt⟩
        have hmw : (Lit.int .i64 m).wf = true := may_wf hwf ((HM.out.2 m).1 (List.mem_of_getElem? hm))
        have hkey := keyOf_int_mk Try.underlying3 hmw
        rcases HI5.out.cases with ⟨_, h0⟩ | ⟨g, capv, hv, _, hg, _, hcm, hc, _⟩
        · rw [h0] at hlt; exact absurd hlt (Nat.not_lt_zero _)
        · obtain ⟨rfl, _, rfl⟩ : p = some ⟨g, 0, none⟩ ∧ True ∧ c5 = capv := by simpa using hv
          have cl := (hbw.cell (p := ⟨g, k, none⟩) hg).trans (hc k m hm)
          have HX := Lib.hid hm
          have HU := Lib.hid hmu
          clear hm hmu hc hv
          gi_wp2_with (first
            | (gi_at_lookup; refine wpListIn_lookup_own_int _ rfl _ _ 64 rfl 3 3 .i64 law3k Try.underlying64 Try.underlying3 (Try.zeroValue3 _) (S + 1) es.length _ rfl oGr _ _ rfl hkey ?_; intro c hat hwc
               obtain rfl : c = moreL q.toList es m := by have := hat.symm.trans (HG.out.2 m); simpa using this)
            | (gi_at_builtin; refine wpListIn_append_own _ rfl _ _ 33 rfl w5.heap.size 3 i0 (.int .i64 0) 1 8 Try.underlying33 hi hz0 hz1 hz2 rfl (by decide) _ _ _ rfl (World.ownsRow.alloc hrow _) ⟨wr.heap.size, 0, none⟩ 1 1 [.int .i64 _] rfl rfl (cell_one_new _ _ _) (by simp [Value.oneCell']) hm1 (by omega) (by simp; omega) ?_
               intro v' w3 hown' hgrow _; obtain ⟨hi3, hb3⟩ := Ints.appended hrow hws hown' hgrow; have hB3 := hbw.trans hb3; clear hrow hown' hgrow hb3)
            | gi_in)
          · have h0 : 0 < moreL q.toList es m := by assumption
            exact ⟨⟨k + 1, mu ++ [m], by go_num, by omega, by rw [must_yes HX.out (by simpa using h0), HU.out], hi3, hB3⟩, by simp [intOf]; omega⟩
          · have h0 : moreL q.toList es m ≤ 0 := by assumption
            exact ⟨⟨k + 1, mu, by go_num, by omega, by rw [must_no HX.out (by simpa using h0), HU.out], hrow, hbw⟩, by simp [intOf]; omega⟩
      · obtain rfl : k = l.length := by omega
        rw [List.take_length] at hmu
        have HU := Lib.hid hmu
        clear hmu
        gi_wp2
        have hDl5 : D < w5.heap.size := (Array.getElem?_eq_some_iff.1 HK5.out).1
        have hKr : wr.heap[D]? = some (.deferred (some [])) := (hbw.block D hDl5).trans HK5.out
        have hBr : Below w.heap.size w wr := HB5.out.trans (hbw.mono HB5.out.size)
        have hiv : Ints w.heap.size wr (.slice p l.length c5) l := Ints.base (Ints.below hbw HI5.out (fun g hg => (HI5.out.lt g hg).2)) hW5
        have him : Ints w.heap.size wr _ mu := Ints.base hrow HB5.out.size
        refine ⟨by simp, .inl ⟨_, _, rfl, run_takeDeferred hKr, ?_⟩⟩
        refine ⟨.tuple #[_, .slice p l.length c5, .int .i64 0], ?_, _, _, mu, l, by rw [hh.out], ownsRow_putObj him _ hKr rfl, ownsRow_putObj hiv _ hKr rfl, ?_, hBr.trans (belowK_b (w := w) (Nat.le_refl _) wr D _ _ (by omega) hKr rfl rfl), hl1, ?_⟩
        · simp [results, Try.f13, go_sem]
        · intro g hg hg'
          have h1 := (Ints.lt hrow g hg).1
          have h2 := (HI5.out.lt g hg').2
          omega
        · rw [if_pos hh.out]
          exact ⟨HM.out, HU.out⟩
  case stop =>
    rintro D c pre W _ _ h _
    exact h.elim

set_option maxRecDepth 100000 in
set_option maxHeartbeats 2000000 in
theorem left_bad (a : Option Addr) (len cap : Nat) (E : Int) (q : ByteArray) (w : World) (hE : E = 2 ∨ E = 270)
    (hA : ∀ W, Below w.heap.size w W → Calls Try.prog 20 #[.slice a len cap] W fun r w' => r = .returned (.int .i64 E) ∧ Below W.heap.size W w') :
    Calls Try.prog 13 #[.string q, .slice a len cap] w fun e W' => e = .returned (.tuple #[.slice none 0 0, .slice none 0 0, .int .i64 E]) ∧ Below w.heap.size w W' := by
  have hA2 := hA (w.alloc (.cells #[.string q] 9)) ((Below.refl _ w).alloc (Nat.le_refl _) _)
  clear hA
  go_enter Try.func13, Try.ntmps13
  go_wp2_with (go_at_call 20; refine hA2.mono ?_; rintro r w1 ⟨rfl, hb1⟩)
  all_goals first
    | (refine bodyPost_ret (v := .tuple #[.slice none 0 0, .slice none 0 0, .int .i64 E]) (by simp [results, Try.f13, go_sem]) rfl ?_
       exact ⟨rfl, ((Below.refl _ w).alloc (Nat.le_refl _) _).trans (hb1.mono (by simp))⟩)
    | omega

theorem histE_len' {es : List Ent} (h : histE es = 0) : es.length ≤ 400 := by
  unfold histE at h
  split at h
  · cases h
  · omega
theorem histE_cases' (es : List Ent) : histE es = 0 ∨ histE es = 2 ∨ histE es = 270 := by
  unfold histE
  split
  · exact .inr (.inl rfl)
  · split
    · exact .inl rfl
    · exact .inr (.inr rfl)

theorem left_any (n : Nat) (sv : Value) (es : List Ent) (q : ByteArray) (w : World) (h : HistAt n w sv es) (hn : n ≤ w.heap.size) (hwf : ∀ e ∈ es, (Lit.int .i64 e.msg).wf = true) :
    Calls Try.prog 13 #[.string q, sv] w (LeftAns w es q) := by
  obtain ⟨a, cap, rfl⟩ := h.len
  by_cases h0 : histE es = 0
  · exact callsIn_wide.1 (left_good n a cap es q w h hn (histE_len' h0) h0 hwf)
  · refine (left_bad a _ cap (histE es) q w (by rcases histE_cases' es with h | h | h <;> first | exact absurd h h0 | exact .inl h | exact .inr h) fun W hb => amiss_any n _ es W (h.below (hb.mono hn)) (Nat.le_trans hn hb.size)).mono ?_
    rintro e W' ⟨rfl, hb⟩
    exact ⟨_, _, [], [], rfl, Ints.nil _ _, Ints.nil _ _, fun g hg => by simp [Value.ownBlock] at hg, hb, by simp, by rw [if_neg h0]; exact ⟨rfl, rfl⟩⟩

end Go.Proofs.Ytgincippgaecfaa.Au
