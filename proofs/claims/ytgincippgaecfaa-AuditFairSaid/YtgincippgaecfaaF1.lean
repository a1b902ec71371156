/-
  Left of the program at a good history: what it tells is what the plain law says. No condition but the reach.
-/
import Derived.Test.YtgincippgaecfaaK1
import Derived.Maps.AppendAt
import Derived.Sort.MapsRangeIn
import Derived.Maps.OwnIn
namespace Go.Proofs.Ytgincippgaecfaa.Au
open Go Go.RowKit Go.Shelf Go.Maps

attribute [local go_sem] Oper.semAt_some

theorem ownsMap_below {n : Nat} {A B : World} (h : Below n A B) {b k : Nat} {D : DU} (ho : A.ownsMap Try.prog 3 (plainElem Try.prog 3) b k D) (hb : b < n) : B.ownsMap Try.prog 3 (plainElem Try.prog 3) b k D := by
  obtain ⟨es, clock, hh, r⟩ := ho
  exact ⟨es, clock, (h.block b hb).trans hh, r⟩

/-- The entries that came, the last first. -/
def came (es : List Ent) (pre : List (Fin es.length)) : List Ent := pre.reverse.map fun i => es[i]
theorem came_snoc (es : List Ent) (pre : List (Fin es.length)) (x : Fin es.length) : came es (pre ++ [x]) = es[x] :: came es pre := by simp [came]
theorem came_all (es : List Ent) : came es (List.finRange es.length).reverse = es := by
  unfold came
  rw [List.reverse_reverse]
  apply List.ext_getElem?
  intro i
  rw [List.getElem?_map]
  by_cases hi : i < es.length
  · simp [hi]
  · simp [Nat.le_of_not_lt hi]
theorem came_length (es : List Ent) (pre : List (Fin es.length)) : (came es pre).length = pre.length := by simp [came]

/-- What the two maps tell. -/
def HasS (D : DU) (q : List UInt8) (c : List Ent) : Prop := IsMap D ∧ ∀ m, has D (.int .i64 m) = c.any (isSent q m)
def ReadsM (D : DU) (q : List UInt8) (c : List Ent) : Prop := IsMap D ∧ ∀ m, D.atKey (.int .i64 m) (.lit (.int .i64 0)) = .lit (.int .i64 (moreL q c m))

theorem HasS.start (q : List UInt8) : HasS (.map []) q [] := ⟨⟨[], rfl⟩, fun _ => rfl⟩
theorem ReadsM.start (q : List UInt8) : ReadsM (.map []) q [] := ⟨⟨[], rfl⟩, fun _ => rfl⟩
theorem HasS.pass {D : DU} {q : List UInt8} {c : List Ent} {e : Ent} (h : HasS D q c) (hn : ∀ m, isSent q m e = false) : HasS D q (e :: c) := ⟨h.1, fun m => by rw [h.2 m]; simp [hn m]⟩
theorem HasS.put {D : DU} {q : List UInt8} {c : List Ent} {e : Ent} (h : HasS D q c) (hn : ∀ m, isSent q m e = decide (m = e.msg)) (d : DU) : HasS (D.put (.int .i64 e.msg) d) q (e :: c) := by
  refine ⟨h.1.put _ _, fun m => ?_⟩
  by_cases hm : m = e.msg
  · subst hm; rw [has_put_same h.1 (show WideAt.IsKeyLit (.int .i64 e.msg) from trivial)]; simp [hn]
  · rw [has_put_other (fun e' => hm (by cases e'; rfl)), h.2 m]; simp [hn m, hm]
theorem ReadsM.pass {D : DU} {q : List UInt8} {c : List Ent} {e : Ent} (h : ReadsM D q c) (hn : ∀ m, dlt q e (c.any crashE) m = 0) : ReadsM D q (e :: c) := ⟨h.1, fun m => by rw [h.2 m]; simp [moreL, hn m]⟩
theorem ReadsM.put {D : DU} {q : List UInt8} {c : List Ent} {e : Ent} {v z : Int} (h : ReadsM D q c) (hc : c.length ≤ 1000) (hz : z = 1 ∨ z = -1) (hat : D.atKey (.int .i64 e.msg) (.lit (.int .i64 0)) = .lit (.int .i64 v)) (hn : ∀ m, dlt q e (c.any crashE) m = if m = e.msg then z else 0) {x : Int} (hx : x = wrap64 (v + z)) :
    ReadsM (D.put (.int .i64 e.msg) (.lit (.int .i64 x))) q (e :: c) := by
  have hv : v = moreL q c e.msg := by have := hat.symm.trans (h.2 e.msg); simpa using this
  have hb := moreL_bound q e.msg c
  refine ⟨h.1.put _ _, fun m => ?_⟩
  by_cases hm : m = e.msg
  · subst hm
    rw [atKey_put_same h.1 (show WideAt.IsKeyLit (.int .i64 e.msg) from trivial)]
    have e1 : wrap64 (v + z) = v + z := by unfold wrap64; omega
    rw [hx, e1, hv, moreL, hn, if_pos rfl]
  · rw [atKey_put_other (fun e' => hm (by cases e'; rfl)), h.2 m]; simp [moreL, hn m, hm]

/-- Between two rounds of the backward loop. -/
def LI (w : World) (S : Nat) (sv : Value) (es : List Ent) (q : ByteArray) (pre : List (Fin es.length)) (W : World) : Prop :=
  Boxed W w.heap.size 9 (.string q) ∧ Boxed W (S + 1 + 1) 63 (.map (some S)) ∧ Boxed W (S + 1 + 1 + 1) 64 (.map (some (S + 1))) ∧ Boxed W (S + 1 + 1 + 1 + 1) 4 (.bool ((came es pre).any crashE)) ∧ Boxed W (S + 1 + 1 + 1 + 1 + 1) 23 sv ∧
  (∃ D : DU, W.ownsMap Try.prog 3 (plainElem Try.prog 3) S pre.length D ∧ HasS D q.toList (came es pre)) ∧
  (∃ D : DU, W.ownsMap Try.prog 3 (plainElem Try.prog 3) (S + 1) pre.length D ∧ ReadsM D q.toList (came es pre)) ∧ Below w.heap.size w W

section
variable {w : World} {S : Nat} {sv : Value} {es : List Ent} {q : ByteArray} {pre : List (Fin es.length)} {W W' : World}

theorem LI.kept (h : LI w S sv es q pre W) (hS : w.heap.size + 1 ≤ S) {row : Option Nat} (hg : W.grownBy W' row) (hr : ∀ r, row = some r → S + 6 ≤ r) : LI w S sv es q pre W' := by
  obtain ⟨h1, h2, h3, h4, h5, ⟨D, h6, h7⟩, ⟨D', h8, h9⟩, h10⟩ := h
  exact ⟨h1.kept hg (fun e => by have := hr _ e.symm; omega), h2.kept hg (fun e => by have := hr _ e.symm; omega), h3.kept hg (fun e => by have := hr _ e.symm; omega), h4.kept hg (fun e => by have := hr _ e.symm; omega),
    h5.kept hg (fun e => by have := hr _ e.symm; omega), ⟨D, h6.kept hg (fun e => by have := hr _ e.symm; omega), h7⟩, ⟨D', h8.kept hg (fun e => by have := hr _ e.symm; omega), h9⟩,
    h10.grown hg h10.size (fun k e => by have := hr _ e; omega)⟩

theorem LI.own (hS : w.heap.size + 1 ≤ S) {B : Nat} (hB : S + 6 ≤ B) : OwnFrom B (LI w S sv es q) := fun _ _ _ _ hs hg hr => LI.kept hs hS hg (fun r e => Nat.le_trans hB (hr r e).1)

theorem LI.pass (h : LI w S sv es q pre W) (x : Fin es.length) {e : Ent} (he : es[x] = e) (hc : crashE e = false) (h1 : ∀ m, isSent q.toList m e = false) (h2 : ∀ m, dlt q.toList e ((came es pre).any crashE) m = 0) : LI w S sv es q (pre ++ [x]) W := by
  obtain ⟨b1, b2, b3, b4, b5, ⟨D, h6, h7⟩, ⟨D', h8, h9⟩, h10⟩ := h
  refine ⟨b1, b2, b3, ?_, b5, ⟨D, h6.mono (by simp), ?_⟩, ⟨D', h8.mono (by simp), ?_⟩, h10⟩
  · rw [came_snoc, he, List.any_cons, hc, Bool.false_or]; exact b4
  · rw [came_snoc, he]; exact h7.pass h1
  · rw [came_snoc, he]; exact h9.pass h2

theorem LI.crash (h : LI w S sv es q pre W) (hS : w.heap.size + 1 ≤ S) (x : Fin es.length) {e : Ent} (he : es[x] = e) (hc : crashE e = true) (h1 : ∀ m, isSent q.toList m e = false) (h2 : ∀ m, dlt q.toList e ((came es pre).any crashE) m = 0) :
    LI w S sv es q (pre ++ [x]) (W.setCell ⟨S + 1 + 1 + 1 + 1, 0, none⟩ (.bool true)) := by
  obtain ⟨b1, b2, b3, b4, b5, ⟨D, h6, h7⟩, ⟨D', h8, h9⟩, h10⟩ := h
  have hg := grownBy_setCell' W (S + 1 + 1 + 1 + 1) (.bool true)
  refine ⟨b1.kept hg (fun e => by have := Option.some.inj e; omega), b2.kept hg (fun e => by have := Option.some.inj e; omega), b3.kept hg (fun e => by have := Option.some.inj e; omega), ?_, b5.kept hg (fun e => by have := Option.some.inj e; omega),
    ⟨D, (h6.kept hg (fun e => by have := Option.some.inj e; omega)).mono (by simp), ?_⟩, ⟨D', (h8.kept hg (fun e => by have := Option.some.inj e; omega)).mono (by simp), ?_⟩, h10.grown hg h10.size (fun k e => by have := Option.some.inj e; omega)⟩
  · rw [came_snoc, he, List.any_cons, hc, Bool.true_or]; exact b4.set _
  · rw [came_snoc, he]; exact h7.pass h1
  · rw [came_snoc, he]; exact h9.pass h2

theorem LI.sent (h : LI w S sv es q pre W) (hS : w.heap.size + 1 ≤ S) (x : Fin es.length) {e : Ent} (he : es[x] = e) {D : DU} {d : DU} (hT : HasS D q.toList (came es pre)) (hg : W.grownBy W' (some S))
    (hown : W'.ownsMap Try.prog 3 (plainElem Try.prog 3) S (pre.length + 1) (D.put (.int .i64 e.msg) d)) (hc : crashE e = false) (h1 : ∀ m, isSent q.toList m e = decide (m = e.msg)) (h2 : ∀ m, dlt q.toList e ((came es pre).any crashE) m = 0) :
    LI w S sv es q (pre ++ [x]) W' := by
  obtain ⟨b1, b2, b3, b4, b5, _, ⟨D', h8, h9⟩, h10⟩ := h
  refine ⟨b1.kept hg (fun e => by have := Option.some.inj e; omega), b2.kept hg (fun e => by have := Option.some.inj e; omega), b3.kept hg (fun e => by have := Option.some.inj e; omega), ?_, b5.kept hg (fun e => by have := Option.some.inj e; omega),
    ⟨_, by simpa using hown, ?_⟩, ⟨D', (h8.kept hg (fun e => by have := Option.some.inj e; omega)).mono (by simp), ?_⟩, h10.grown hg h10.size (fun k e => by have := Option.some.inj e; omega)⟩
  · rw [came_snoc, he, List.any_cons, hc, Bool.false_or]; exact b4.kept hg (fun e => by have := Option.some.inj e; omega)
  · rw [came_snoc, he]; exact hT.put h1 d
  · rw [came_snoc, he]; exact h9.pass h2

theorem LI.more (h : LI w S sv es q pre W) (hS : w.heap.size + 1 ≤ S) (hl : pre.length ≤ 1000) (x : Fin es.length) {e : Ent} (he : es[x] = e) {D : DU} {v z c : Int} (hT : ReadsM D q.toList (came es pre)) (hg : W.grownBy W' (some (S + 1)))
    (hown : W'.ownsMap Try.prog 3 (plainElem Try.prog 3) (S + 1) (pre.length + 1) (D.put (.int .i64 e.msg) (.lit (.int .i64 c)))) (hz : z = 1 ∨ z = -1) (hat : D.atKey (.int .i64 e.msg) (.lit (.int .i64 0)) = .lit (.int .i64 v)) (hcz : c = wrap64 (v + z))
    (hc : crashE e = false) (h1 : ∀ m, isSent q.toList m e = false) (h2 : ∀ m, dlt q.toList e ((came es pre).any crashE) m = if m = e.msg then z else 0) :
    LI w S sv es q (pre ++ [x]) W' := by
  obtain ⟨b1, b2, b3, b4, b5, ⟨D', h8, h9⟩, _, h10⟩ := h
  refine ⟨b1.kept hg (fun e => by have := Option.some.inj e; omega), b2.kept hg (fun e => by have := Option.some.inj e; omega), b3.kept hg (fun e => by have := Option.some.inj e; omega), ?_, b5.kept hg (fun e => by have := Option.some.inj e; omega),
    ⟨D', (h8.kept hg (fun e => by have := Option.some.inj e; omega)).mono (by simp), ?_⟩, ⟨_, by simpa using hown, ?_⟩, h10.grown hg h10.size (fun k e => by have := Option.some.inj e; omega)⟩
  · rw [came_snoc, he, List.any_cons, hc, Bool.false_or]; exact b4.kept hg (fun e => by have := Option.some.inj e; omega)
  · rw [came_snoc, he]; exact h9.pass h1
  · rw [came_snoc, he]; exact hT.put (by rw [came_length]; exact hl) hz hat h2 hcz
end

end Go.Proofs.Ytgincippgaecfaa.Au
