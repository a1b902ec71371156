/-
  The program's wrong: what it answers is what is wrong; where nothing is, the judge takes the entry into account. No condition but what the judge holds.
-/
import Derived.Test.YtgincippgaecfaaJ17
namespace Go.Proofs.Ytgincippgaecfaa.Au
open Go Go.RowKit

/-- An entry as a judge may meet it. -/
structure EntOk (e : Ent) : Prop where
  ok : okE e = true
  msg : (Lit.int .i64 e.msg).wf = true
  count : (Lit.int .i64 e.count).wf = true
  who : (Lit.int .i64 e.who).wf = true
  queue : e.queue.size ≤ maxLen

theorem EntOk.key {e : Ent} (h : EntOk e) : KeyOk 55 (alikeV e) := key55 (e := ⟨0, e.who, e.queue, e.msg, e.count, e.dur⟩) rfl h.who h.queue h.msg h.count

theorem okE_kind {e : Ent} (h : okE e = true) : e.kind = 1 ∨ e.kind = 2 ∨ e.kind = 3 ∨ e.kind = 4 ∨ e.kind = 5 ∨ e.kind = 6 ∨ e.kind = 7 := by
  unfold okE at h
  split at h
  · omega
  · split at h
    · omega
    · split at h
      · omega
      · cases h
theorem okE_count {e : Ent} (h : okE e = true) (hk : e.kind = 1 ∨ e.kind = 2 ∨ e.kind = 3) : e.count = 0 := by
  unfold okE at h
  rw [if_neg (by omega), if_pos hk] at h
  simp at h
  exact h.1

theorem countL_false {pre : List Ent} {e : Ent} (hp : ∀ x ∈ pre, EntOk x) (he : e.count = 0) {one two : Int} (h1 : one = 1 ∨ one = 2 ∨ one = 3) (h2 : two = 1 ∨ two = 2 ∨ two = 3) : countL pre e one two false = countL pre e one two true := by
  unfold countL
  refine List.countP_congr fun x hx => ?_
  have ho := hp x hx
  by_cases hk : x.kind = one ∨ x.kind = two
  · have hc := okE_count ho.ok (by omega)
    simp [alikeE, hc, he]
  · have : (decide (x.kind = one) || decide (x.kind = two)) = false := by
      rw [Bool.eq_false_iff]; simpa using hk
    simp [this]

theorem wrongL_told {qs : List Qc} {pre : List Ent} {e : Ent} (hp : ∀ x ∈ pre, EntOk x) (he : EntOk e) (hk : e.kind = 2 ∨ e.kind = 3) : wrongL qs pre e = if 0 < openC pre e then 0 else 1 := by
  have hc := okE_count he.ok (by omega)
  unfold wrongL
  rw [if_pos hk, countL_false hp hc (by omega) (by omega), countL_false hp hc (by omega) (by omega)]
  unfold openC
  by_cases h : 0 < (countL pre e 1 1 true : Int) - countL pre e 2 3 true
  · rw [if_pos h, if_neg (by omega)]
  · rw [if_neg h, if_pos (by omega)]
theorem wrongL_done {qs : List Qc} {pre : List Ent} {e : Ent} (hk : e.kind = 5 ∨ e.kind = 6) : wrongL qs pre e = if 0 < heldC pre e then 0 else 6 := by
  unfold wrongL
  rw [if_neg (by omega), if_neg (by omega), if_pos hk]
  unfold heldC
  by_cases h : 0 < (countL pre e 4 4 true : Int) - countL pre e 5 6 true
  · rw [if_pos h, if_neg (by omega)]
  · rw [if_neg h, if_pos (by omega)]
theorem wrongL_sent {qs : List Qc} {pre : List Ent} {e : Ent} (hk : e.kind = 1 ∨ e.kind = 7) : wrongL qs pre e = 0 := by
  unfold wrongL
  rw [if_neg (by omega), if_neg (by omega), if_neg (by omega)]

theorem any_sentL {pre : List Ent} {m : Int} (p : Ent → Bool) : (sentL pre m).any p = pre.any fun x => decide (x.msg = m) && decide (x.kind = 1) && p x := by
  unfold sentL
  rw [List.any_filter]
theorem wrongL_got {qs : List Qc} {pre : List Ent} {e : Ent} (hk : e.kind = 4) : wrongL qs pre e = gotA qs (sentL pre e.msg) (backC pre e.msg) e := by
  unfold wrongL
  rw [if_neg (by omega), if_pos hk]
  unfold gotL gotA backC
  have h1 : (sentL pre e.msg = []) ↔ (!pre.any fun x => decide (x.msg = e.msg) && decide (x.kind = 1)) = true := by
    unfold sentL
    rw [List.filter_eq_nil_iff]
    simp
  have h2 : (beginsB e.queue.toList queueB && !(sentL pre e.msg).any fun x => leadsB qs x.queue.toList e.queue.toList) = !(!beginsB e.queue.toList queueB || pre.any fun x => decide (x.msg = e.msg) && decide (x.kind = 1) && leadsB qs x.queue.toList e.queue.toList) := by
    rw [any_sentL]
    simp
  have h3 : ((sentL pre e.msg).any fun x => x.dur == e.dur) = pre.any fun x => decide (x.msg = e.msg) && decide (x.kind = 1) && (x.dur == e.dur) := any_sentL _
  rw [h2, h3]
  simp only [h1]

section
variable {S B2 : Nat} {w0 W W' : World} {qs : List Qc} {pre : List Ent} {e : Ent}

theorem snoc_len (pre : List Ent) (e : Ent) : (pre ++ [e]).length = pre.length + 1 := by simp

theorem fine_snoc (h : ∀ x, 0 ≤ openC pre x ∧ 0 ≤ heldC pre x) (h1 : e.kind = 2 ∨ e.kind = 3 → 0 < openC pre e) (h2 : e.kind = 5 ∨ e.kind = 6 → 0 < heldC pre e) : ∀ x, 0 ≤ openC (pre ++ [e]) x ∧ 0 ≤ heldC (pre ++ [e]) x := fun x => by
  have hx := h x
  rw [openC_snoc, heldC_snoc]
  cases ha : alikeE true x e with
  | false => simpa using hx
  | true =>
    have e1 : openC pre x = openC pre e := by unfold openC; rw [countL_congr (alikeE_iff.1 ha), countL_congr (alikeE_iff.1 ha)]
    have e2 : heldC pre x = heldC pre e := by unfold heldC; rw [countL_congr (alikeE_iff.1 ha), countL_congr (alikeE_iff.1 ha)]
    simp only [if_true]
    constructor
    · by_cases k1 : e.kind = 1
      · rw [if_pos k1]; omega
      · rw [if_neg k1]
        by_cases k2 : e.kind = 2 ∨ e.kind = 3
        · have := h1 k2
          rw [if_pos k2]; omega
        · rw [if_neg k2]; omega
    · by_cases k1 : e.kind = 4
      · rw [if_pos k1]; omega
      · rw [if_neg k1]
        by_cases k2 : e.kind = 5 ∨ e.kind = 6
        · have := h2 k2
          rw [if_pos k2]; omega
        · rw [if_neg k2]; omega

theorem openC_alike {x : Ent} (ha : alikeE true x e = true) : openC pre x = openC pre e := by unfold openC; rw [countL_congr (alikeE_iff.1 ha), countL_congr (alikeE_iff.1 ha)]
theorem heldC_alike {x : Ent} (ha : alikeE true x e = true) : heldC pre x = heldC pre e := by unfold heldC; rw [countL_congr (alikeE_iff.1 ha), countL_congr (alikeE_iff.1 ha)]
/-- How a tally's counts go on, in the form of a step. -/
theorem openC_step {k : Int} (hk : k = openC pre e + (if e.kind = 1 then 1 else if e.kind = 2 ∨ e.kind = 3 then -1 else 0)) (x : Ent) : openC (pre ++ [e]) x = if alikeE true x e = true then k else openC pre x := by
  rw [openC_snoc]
  cases ha : alikeE true x e with
  | false => simp
  | true => rw [hk, openC_alike ha]; simp
theorem heldC_step {k : Int} (hk : k = heldC pre e + (if e.kind = 4 then 1 else if e.kind = 5 ∨ e.kind = 6 then -1 else 0)) (x : Ent) : heldC (pre ++ [e]) x = if alikeE true x e = true then k else heldC pre x := by
  rw [heldC_snoc]
  cases ha : alikeE true x e with
  | false => simp
  | true => rw [hk, heldC_alike ha]; simp
theorem openC_same (hk : ¬ e.kind = 1) (hk2 : ¬ (e.kind = 2 ∨ e.kind = 3)) (x : Ent) : openC (pre ++ [e]) x = openC pre x := by
  rw [openC_snoc, if_neg hk, if_neg hk2]; simp
theorem heldC_same (hk : ¬ e.kind = 4) (hk2 : ¬ (e.kind = 5 ∨ e.kind = 6)) (x : Ent) : heldC (pre ++ [e]) x = heldC pre x := by
  rw [heldC_snoc, if_neg hk, if_neg hk2]; simp
theorem backC_same (hk : ¬ e.kind = 6) (m : Int) : backC (pre ++ [e]) m = backC pre m := by
  rw [backC_snoc, if_neg (fun h => hk h.2)]; omega
theorem sentL_same (hk : ¬ e.kind = 1) (m : Int) : sentL (pre ++ [e]) m = sentL pre m := by
  rw [sentL_snoc, if_neg (fun h => hk h.2)]; simp

theorem JI.told (h : JI S B2 w0 qs pre W) (hk : e.kind = 2 ∨ e.kind = 3) (hp : 0 < openC pre e) {f : Value → Value} (hf : ∀ x, f (alikeV x) = .int .i64 (openC pre x)) (hg : W.grownBy W' (some (S + 1))) (hM : MapV W' 55 (S + 1) (pre.length + 1) (.int .i64 0) (upd f (alikeV e) (.int .i64 (openC pre e - 1)))) : JI S B2 w0 qs (pre ++ [e]) W' := by
  have hlo := h.lo
  have hsz := h.size
  have hr : ∀ {P : Nat → Prop}, P (S + 1) → ∀ r, some (S + 1) = some r → P r := fun hp r e => by have := Option.some.inj e; subst this; exact hp
  refine ⟨h.below.grown hg (by omega) (hr (by omega)), h.from_, h.lo, Nat.le_trans h.size hg.size, (hg.block _ (by omega) (by simp)).trans h.box, h.dead.kept hg (by simp) (hr (by omega)), ?_, ?_, ?_, ?_, fine_snoc h.fine (fun _ => hp) (fun hk2 => by omega)⟩
  · rw [snoc_len]; exact JTal.step hf hM (openC_step (by rw [if_neg (by omega), if_pos hk]; omega))
  · rw [snoc_len]; exact ((h.held.kept hg (by simp)).mono (Nat.le_succ _)).congr (heldC_same (by omega) (by omega))
  · rw [snoc_len]; exact ((h.sent.kept hg (by simp) (hr (by omega))).mono (Nat.le_succ _)).congr (sentL_same (by omega))
  · rw [snoc_len]; exact ((h.back.kept hg (by simp)).mono (Nat.le_succ _)).congr (backC_same (by omega))

theorem JI.done (h : JI S B2 w0 qs pre W) (hk : e.kind = 5) (hp : 0 < heldC pre e) {f : Value → Value} (hf : ∀ x, f (alikeV x) = .int .i64 (heldC pre x)) (hg : W.grownBy W' (some (S + 2))) (hM : MapV W' 55 (S + 2) (pre.length + 1) (.int .i64 0) (upd f (alikeV e) (.int .i64 (heldC pre e - 1)))) : JI S B2 w0 qs (pre ++ [e]) W' := by
  have hlo := h.lo
  have hsz := h.size
  have hr : ∀ {P : Nat → Prop}, P (S + 2) → ∀ r, some (S + 2) = some r → P r := fun hp r e => by have := Option.some.inj e; subst this; exact hp
  refine ⟨h.below.grown hg (by omega) (hr (by omega)), h.from_, h.lo, Nat.le_trans h.size hg.size, (hg.block _ (by omega) (by simp)).trans h.box, h.dead.kept hg (by simp) (hr (by omega)), ?_, ?_, ?_, ?_, fine_snoc h.fine (fun _ => by omega) (fun hk2 => hp)⟩
  · rw [snoc_len]; exact ((h.open_.kept hg (by simp)).mono (Nat.le_succ _)).congr (openC_same (by omega) (by omega))
  · rw [snoc_len]; exact JTal.step hf hM (heldC_step (by rw [if_neg (by omega), if_pos (by omega)]; omega))
  · rw [snoc_len]; exact ((h.sent.kept hg (by simp) (hr (by omega))).mono (Nat.le_succ _)).congr (sentL_same (by omega))
  · rw [snoc_len]; exact ((h.back.kept hg (by simp)).mono (Nat.le_succ _)).congr (backC_same (by omega))

theorem JI.gave (h : JI S B2 w0 qs pre W) {W1 : World} (hk : e.kind = 6) (hp : 0 < heldC pre e) {f fb : Value → Value} (hf : ∀ x, f (alikeV x) = .int .i64 (heldC pre x)) (hfb : ∀ m, fb (.int .i64 m) = .int .i64 (backC pre m)) (hg : W.grownBy W1 (some (S + 2))) (hM : MapV W1 55 (S + 2) (pre.length + 1) (.int .i64 0) (upd f (alikeV e) (.int .i64 (heldC pre e - 1))))
    (hg2 : W1.grownBy W' (some (S + 4))) (hM2 : MapV W' 3 (S + 4) (pre.length + 1) (.int .i64 0) (upd fb (.int .i64 e.msg) (.int .i64 (backC pre e.msg + 1)))) : JI S B2 w0 qs (pre ++ [e]) W' := by
  have hlo := h.lo
  have hsz := h.size
  have hs1 := hg.size
  have hr : ∀ {P : Nat → Prop}, P (S + 2) → ∀ r, some (S + 2) = some r → P r := fun hp r e => by have := Option.some.inj e; subst this; exact hp
  have hr2 : ∀ {P : Nat → Prop}, P (S + 4) → ∀ r, some (S + 4) = some r → P r := fun hp r e => by have := Option.some.inj e; subst this; exact hp
  refine ⟨(h.below.grown hg (by omega) (hr (by omega))).grown hg2 (by omega) (hr2 (by omega)), h.from_, h.lo, Nat.le_trans h.size (Nat.le_trans hg.size hg2.size), (hg2.block _ (by omega) (by simp)).trans ((hg.block _ (by omega) (by simp)).trans h.box),
    (h.dead.kept hg (by simp) (hr (by omega))).kept hg2 (by simp) (hr2 (by omega)), ?_, ?_, ?_, ?_, fine_snoc h.fine (fun _ => by omega) (fun hk2 => hp)⟩
  · rw [snoc_len]; exact (((h.open_.kept hg (by simp)).kept hg2 (by simp)).mono (Nat.le_succ _)).congr (openC_same (by omega) (by omega))
  · rw [snoc_len]; exact (JTal.step hf hM (heldC_step (by rw [if_neg (by omega), if_pos (by omega)]; omega))).kept hg2 (by simp)
  · rw [snoc_len]; exact (((h.sent.kept hg (by simp) (hr (by omega))).kept hg2 (by simp) (hr2 (by omega))).mono (Nat.le_succ _)).congr (sentL_same (by omega))
  · rw [snoc_len]; exact JBack.step hfb hM2 fun m => by
      rw [backC_snoc]
      by_cases hm : m = e.msg
      · subst hm; rw [if_pos ⟨rfl, hk⟩, if_pos rfl]
      · rw [if_neg (fun h => hm h.1.symm), if_neg hm]; omega

theorem JI.got (h : JI S B2 w0 qs pre W) (hk : e.kind = 4) {f : Value → Value} (hf : ∀ x, f (alikeV x) = .int .i64 (heldC pre x)) (hg : W.grownBy W' (some (S + 2))) (hM : MapV W' 55 (S + 2) (pre.length + 1) (.int .i64 0) (upd f (alikeV e) (.int .i64 (heldC pre e + 1)))) : JI S B2 w0 qs (pre ++ [e]) W' := by
  have hlo := h.lo
  have hsz := h.size
  have hr : ∀ {P : Nat → Prop}, P (S + 2) → ∀ r, some (S + 2) = some r → P r := fun hp r e => by have := Option.some.inj e; subst this; exact hp
  refine ⟨h.below.grown hg (by omega) (hr (by omega)), h.from_, h.lo, Nat.le_trans h.size hg.size, (hg.block _ (by omega) (by simp)).trans h.box, h.dead.kept hg (by simp) (hr (by omega)), ?_, ?_, ?_, ?_, fine_snoc h.fine (fun _ => by omega) (fun hk2 => by omega)⟩
  · rw [snoc_len]; exact ((h.open_.kept hg (by simp)).mono (Nat.le_succ _)).congr (openC_same (by omega) (by omega))
  · rw [snoc_len]; exact JTal.step hf hM (heldC_step (by rw [if_pos hk]))
  · rw [snoc_len]; exact ((h.sent.kept hg (by simp) (hr (by omega))).mono (Nat.le_succ _)).congr (sentL_same (by omega))
  · rw [snoc_len]; exact ((h.back.kept hg (by simp)).mono (Nat.le_succ _)).congr (backC_same (by omega))

theorem JI.crash (h : JI S B2 w0 qs pre W) (hk : e.kind = 7) : JI S B2 w0 qs (pre ++ [e]) W := by
  refine ⟨h.below, h.from_, h.lo, h.size, h.box, h.dead, ?_, ?_, ?_, ?_, fine_snoc h.fine (fun _ => by omega) (fun hk2 => by omega)⟩
  · rw [snoc_len]; exact (h.open_.mono (Nat.le_succ _)).congr (openC_same (by omega) (by omega))
  · rw [snoc_len]; exact (h.held.mono (Nat.le_succ _)).congr (heldC_same (by omega) (by omega))
  · rw [snoc_len]; exact (h.sent.mono (Nat.le_succ _)).congr (sentL_same (by omega))
  · rw [snoc_len]; exact (h.back.mono (Nat.le_succ _)).congr (backC_same (by omega))

theorem JI.sent_ (h : JI S B2 w0 qs pre W) (hk : e.kind = 1) {f fs : Value → Value} {v : Value} (hf : ∀ x, f (alikeV x) = .int .i64 (openC pre x)) (hfs : fs (.int .i64 e.msg) = v) (hM : MapV W 3 (S + 3) pre.length (.slice none 0 0) fs)
    (h2 : ∀ m, W.ownsRow B2 55 6 (fs (.int .i64 m)) (sentL pre m).length (cellsOf (sentL pre m))) (h3 : ∀ m m', m ≠ m' → ∀ g, (fs (.int .i64 m)).ownBlock = some g → (fs (.int .i64 m')).ownBlock ≠ some g)
    (hp : SentPost S B2 pre.length pre.length f fs (openC pre e) e (sentL pre e.msg) v W W') : JI S B2 w0 qs (pre ++ [e]) W' := by
  subst hfs
  obtain ⟨w7, w9, tmp, v', g1, m1, m2, g2, o1, a1, m3, g3⟩ := hp
  have hlo := h.lo
  have hsz := h.size
  have hr : ∀ n {P : Nat → Prop}, P n → ∀ r, some n = some r → P r := fun n _ hp r e => by have := Option.some.inj e; subst this; exact hp
  have hW := h.later (W2of_below W e)
  have hs2 := hW.size
  have s7 := g1.size
  have s9 := g2.size
  simp only [World.size_alloc] at s9
  have hv : ∀ r, (fs (.int .i64 e.msg)).ownBlock = some r → B2 ≤ r := fun r hr => (World.ownsRow.lt (h2 e.msg) r hr).1
  have hvn : ∀ r, r < B2 → some r ≠ (fs (.int .i64 e.msg)).ownBlock := fun r hr e2 => by have := hv r e2.symm; omega
  have gA := World.grownBy_alloc w7 tmp none
  have b7 := hW.below.grown g1 (by omega) (hr (S + 1) (by omega))
  have b8 := b7.alloc (by omega) tmp
  have b9 := b8.grown g2 (by simp; omega) (fun r e2 => by have := hv r e2; omega)
  refine ⟨b9.grown g3 (by omega) (hr (S + 3) (by omega)), h.from_, h.lo, ?_, ?_, ?_, ?_, ?_, ?_, ?_, fine_snoc h.fine (fun _ => by omega) (fun _ => by omega)⟩
  · have := g3.size; omega
  · exact (g3.block _ (by omega) (by simp)).trans ((g2.block _ (by simp; omega) (hvn _ (by omega))).trans ((Below.heap_alloc w7 tmp _ (by omega)).trans ((g1.block _ (by omega) (by simp)).trans hW.box)))
  · exact (((hW.dead.kept g1 (by simp) (hr (S + 1) (by omega))).kept gA (by simp) (by simp)).kept g2 (hvn _ (by omega)) (fun r e2 => .inr (hv r e2))).kept g3 (by simp) (hr (S + 3) (by omega))
  · rw [snoc_len]
    exact (((JTal.step (c' := openC (pre ++ [e])) hf m1 (openC_step (by rw [if_pos hk]))).kept gA (by simp)).kept g2 (hvn _ (by omega))).kept g3 (by simp)
  · rw [snoc_len]
    exact (((((hW.held.kept g1 (by simp)).kept gA (by simp)).kept g2 (hvn _ (by omega))).kept g3 (by simp)).mono (Nat.le_succ _)).congr (heldC_same (by omega) (by omega))
  · rw [snoc_len]
    have h2' : ∀ m, w7.ownsRow B2 55 6 (fs (.int .i64 m)) (sentL pre m).length (cellsOf (sentL pre m)) := fun m => by
      refine ownsRow_kept (ownsRow_belowJ (h2 m) (W2of_below W e) fun g hg => (World.ownsRow.lt (h2 m) g hg).2) g1 fun r e2 hb => ?_
      have := Option.some.inj e2
      have := (World.ownsRow.lt (h2 m) r hb).1
      omega
    refine JSent.step (by omega) (by omega) m2 h2' h3 g2 o1 a1 m3 g3 fun m => ?_
    rw [sentL_snoc]
    by_cases hm : m = e.msg
    · subst hm; rw [if_pos ⟨rfl, hk⟩, if_pos rfl]
    · rw [if_neg (fun h => hm h.1.symm), if_neg hm]; simp
  · rw [snoc_len]
    exact (((((hW.back.kept g1 (by simp)).kept gA (by simp)).kept g2 (hvn _ (by omega))).kept g3 (by simp)).mono (Nat.le_succ _)).congr (backC_same (by omega))
end

end Go.Proofs.Ytgincippgaecfaa.Au
