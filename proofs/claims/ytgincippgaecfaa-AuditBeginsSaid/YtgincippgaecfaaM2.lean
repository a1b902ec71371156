/-
  What Order collects out of its two maps, and that the sorted list's answer is the reference's. No program in sight but its key type.
-/
import Derived.Test.YtgincippgaecfaaS3
namespace Go.Proofs.Ytgincippgaecfaa.Au
open Go Go.RowKit Go.Maps

theorem Tells.congr {D : DU} {f g : Int → Option Nat} (h : Tells D f) (e : ∀ m, f m = g m) : Tells D g := (funext e : f = g) ▸ h

/-- Those met so far that were sent, too. -/
def Coll (DG DS : DU) (left : Lit → Bool) (ss : List I64) : Prop :=
  ss.Nodup ∧ ∀ x : I64, x ∈ ss ↔ (has DG (.int .i64 x.1) = true ∧ has DS (.int .i64 x.1) = true ∧ left (.int .i64 x.1) = false)

theorem Coll.start (DG DS : DU) : Coll DG DS (has DG) [] := ⟨List.nodup_nil, fun x => by cases has DG (.int .i64 x.1) <;> simp⟩

theorem Coll.yes {DG DS : DU} {left : Lit → Bool} {ss : List I64} (h : Coll DG DS left ss) {x : I64} {y : DU} (hlk : left (.int .i64 x.1) = true) (hat : ∀ zd, DG.atKey (.int .i64 x.1) zd = y) (hs : has DS (.int .i64 x.1) = true) :
    Coll DG DS (fun z => left z && !z.sameKey (.int .i64 x.1)) (ss ++ [x]) := by
  have hhas : has DG (.int .i64 x.1) = true := has_true_of_atKey hat
  have hnew : x ∉ ss := fun hx => by have := ((h.2 x).1 hx).2.2; rw [hlk] at this; cases this
  refine ⟨List.nodup_append.2 ⟨h.1, by simp, fun a ha b hb => by simp at hb; subst hb; exact fun e => hnew (e ▸ ha)⟩, fun y => ?_⟩
  by_cases hy : y = x
  · subst hy; simp [hhas, hs, Lit.sameKey]
  · have : y.1 ≠ x.1 := fun e => hy (Subtype.ext e)
    simp [h.2 y, hy, Lit.sameKey, this]

theorem Coll.no {DG DS : DU} {left : Lit → Bool} {ss : List I64} (h : Coll DG DS left ss) {x : I64} (hs : has DS (.int .i64 x.1) = false) :
    Coll DG DS (fun z => left z && !z.sameKey (.int .i64 x.1)) ss := by
  refine ⟨h.1, fun y => ?_⟩
  rw [h.2 y]
  by_cases hy : y = x
  · subst hy; simp [hs]
  · have : y.1 ≠ x.1 := fun e => hy (Subtype.ext e)
    simp [Lit.sameKey, this]

theorem isSent_msg {q : List UInt8} {m : Int} {e : Ent} (h : isSent q m e = true) : e.msg = m := by
  simp [isSent] at h; exact h.2

/-- What the maps tell when all is gone over. -/
def sentF (es : List Ent) (q : List UInt8) (m : Int) : Option Nat := sentIx es q m
def gotF (es : List Ent) (q : List UInt8) (who m : Int) : Option Nat := gotIx es q who m

theorem ix_bound {p : Ent → Bool} {es : List Ent} {i : Nat} (h : firstP p es = some i) : i < es.length := by
  unfold firstP at h
  rw [List.findIdx?_eq_some_iff_getElem] at h
  exact h.1
theorem ix_wf {es : List Ent} (hwf : ∀ e ∈ es, (Lit.int .i64 e.msg).wf = true) {p : Int → Ent → Bool} (hp : ∀ m e, p m e = true → e.msg = m) {m : Int} (h : (firstP (p m) es).isSome = true) : (Lit.int .i64 m).wf = true := by
  obtain ⟨i, hi⟩ := Option.isSome_iff_exists.1 h
  unfold firstP at hi
  rw [List.findIdx?_eq_some_iff_getElem] at hi
  obtain ⟨hl, hpi, _⟩ := hi
  rw [← hp _ _ hpi]
  exact hwf _ (List.getElem_mem hl)

/-- THE END: the sorted list's answer is the reference's. -/
theorem order_end {es : List Ent} {q : List UInt8} {who : Int} (hwf : ∀ e ∈ es, (Lit.int .i64 e.msg).wf = true) {DG DS : DU} {left : Lit → Bool} {ss ts : List I64}
    (hG : Tells DG (gotF es q who)) (hS : Tells DS (sentF es q)) (hC : Coll DG DS left ss) (hl : ∀ kl, left kl = false) (hp : ts.Perm ss) (hs : SortedBy (gotF es q who) ts) :
    rises (ts.map fun m => valOf (sentF es q) m.1) = orderR es q who := by
  have hm : ∀ x : I64, x ∈ ts ↔ (gotIx es q who x.1).isSome = true ∧ (sentIx es q x.1).isSome = true := by
    intro x
    rw [hp.mem_iff, hC.2 x, hl, hG.at, hS.at]
    simp [gotF, sentF]
  have hn : (ts.map (·.1)).Nodup := by
    rw [List.Nodup, List.pairwise_map]
    exact (hp.nodup_iff.2 hC.1).imp fun {a b} h e => h (Subtype.ext e)
  rw [← order_law es q who (ts.map (·.1)) hn ?_ ?_]
  · rw [List.map_map]; rfl
  · intro m
    rw [List.mem_map]
    constructor
    · rintro ⟨x, hx, rfl⟩; exact (hm x).1 hx
    · rintro ⟨h1, h2⟩
      have hw : (Lit.int .i64 m).wf = true := ix_wf hwf (p := isGot q who) (fun _ _ h => isGot_msg h) h1
      exact ⟨⟨m, hw⟩, (hm ⟨m, hw⟩).2 ⟨h1, h2⟩, rfl⟩
  · rw [List.pairwise_map]
    refine hs.imp fun {a b} h => ?_
    simp only [valOf, gotF] at h
    simp only [gotAt]
    omega

theorem lastOf_sent (es : List Ent) (q : List UInt8) (m : Int) : lastOf es (isSent q) (List.finRange es.length).reverse m = sentF es q m := lastOf_all es _ m
theorem lastOf_got (es : List Ent) (q : List UInt8) (who m : Int) : lastOf es (isGot q who) (List.finRange es.length).reverse m = gotF es q who m := lastOf_all es _ m

/-- A round that stores. -/
theorem Tells.round {D : DU} {es : List Ent} {p : Int → Ent → Bool} {pre : List (Fin es.length)} (h : Tells D (lastOf es p pre)) (x : Fin es.length) {e : Ent} (he : es[x] = e) (hp : ∀ m, p m e = decide (m = e.msg)) :
    Tells (D.put (.int .i64 e.msg) (.lit (.int .i64 (x.1 : Int)))) (lastOf es p (pre ++ [x])) :=
  (h.put e.msg x.1 trivial).congr fun m => by rw [lastOf_snoc, he, hp]; simp
/-- A round that does not. -/
theorem Tells.pass {D : DU} {es : List Ent} {p : Int → Ent → Bool} {pre : List (Fin es.length)} (h : Tells D (lastOf es p pre)) (x : Fin es.length) {e : Ent} (he : es[x] = e) (hp : ∀ m, p m e = false) :
    Tells D (lastOf es p (pre ++ [x])) := h.congr fun m => by rw [lastOf_snoc, he, hp]; simp

end Go.Proofs.Ytgincippgaecfaa.Au
