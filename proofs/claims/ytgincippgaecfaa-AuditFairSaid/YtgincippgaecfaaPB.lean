/-
  The plain law of beginnings: of each beginning up to the fault Judge finds nothing, of each longer one just that (no program in sight).
-/
import Derived.Test.YtgincippgaecfaaPJ
import Derived.Test.YtgincippgaecfaaPL
namespace Go.Proofs.Ytgincippgaecfaa.Au

/-- Nothing is wrong before place i. -/
def FineTo (qs : List Qc) (es : List Ent) (i : Nat) : Prop := ∀ j e, j < i → es[j]? = some e → wrongL qs (es.take j) e = 0

theorem judgeFrom_spec (qs : List Qc) (es : List Ent) : ∀ n k : Nat, k + n = es.length → FineTo qs es k →
    (judgeFrom qs es n k = (-1, 0) ∧ FineTo qs es es.length) ∨ ∃ i e, es[i]? = some e ∧ ¬ wrongL qs (es.take i) e = 0 ∧ FineTo qs es i ∧ judgeFrom qs es n k = ((i : Int), wrongL qs (es.take i) e)
  | 0, k, hk, hf => .inl ⟨rfl, by rw [← hk]; exact hf⟩
  | n + 1, k, hk, hf => by
    obtain ⟨e, he⟩ : ∃ e, es[k]? = some e := ⟨_, List.getElem?_eq_getElem (by omega)⟩
    by_cases h0 : wrongL qs (es.take k) e = 0
    · rw [judgeFrom_ok he h0]
      refine judgeFrom_spec qs es n (k + 1) (by omega) fun j x hj hx => ?_
      rcases Nat.lt_or_ge j k with h1 | h1
      · exact hf j x h1 hx
      · obtain rfl : j = k := by omega
        rw [he] at hx; cases hx; exact h0
    · exact .inr ⟨k, e, he, h0, hf, judgeFrom_bad he h0⟩
theorem judgeL_spec (qs : List Qc) (es : List Ent) : (judgeL qs es = (-1, 0) ∧ FineTo qs es es.length) ∨ ∃ i e, es[i]? = some e ∧ ¬ wrongL qs (es.take i) e = 0 ∧ FineTo qs es i ∧ judgeL qs es = ((i : Int), wrongL qs (es.take i) e) :=
  judgeFrom_spec qs es es.length 0 (by omega) fun j _ hj => absurd hj (Nat.not_lt_zero _)
theorem judgeL_none {qs : List Qc} {es : List Ent} (h : FineTo qs es es.length) : judgeL qs es = (-1, 0) := by
  rcases judgeL_spec qs es with ⟨h1, _⟩ | ⟨i, e, he, hw, _, _⟩
  · exact h1
  · exact absurd (h i e (List.getElem?_eq_some_iff.1 he).1 he) hw
theorem judgeL_some {qs : List Qc} {es : List Ent} {i : Nat} {e : Ent} (he : es[i]? = some e) (hw : ¬ wrongL qs (es.take i) e = 0) (hf : FineTo qs es i) : judgeL qs es = ((i : Int), wrongL qs (es.take i) e) := by
  rcases judgeL_spec qs es with ⟨_, h2⟩ | ⟨j, x, hx, hw2, hf2, h3⟩
  · exact absurd (h2 i e (List.getElem?_eq_some_iff.1 he).1 he) hw
  · have : j = i := by
      rcases Nat.lt_trichotomy j i with h | h | h
      · exact absurd (hf j x h hx) hw2
      · exact h
      · exact absurd (hf2 i e h he) hw
    subst this
    rw [he] at hx; cases hx
    exact h3

theorem fineTo_take {qs : List Qc} {es : List Ent} {c i : Nat} (hi : i ≤ c) : FineTo qs (es.take c) i ↔ FineTo qs es i := by
  constructor
  · intro h j e hj he
    have := h j e hj (by rw [List.getElem?_take]; rw [if_pos (by omega)]; exact he)
    rwa [List.take_take, Nat.min_eq_left (by omega)] at this
  · intro h j e hj he
    rw [List.getElem?_take, if_pos (by omega)] at he
    rw [List.take_take, Nat.min_eq_left (by omega)]
    exact h j e hj he

theorem wrongL_six (qs : List Qc) (h : List Ent) (e : Ent) : wrongL qs h e ≤ 6 := by
  unfold wrongL gotL
  split
  · split <;> omega
  · split
    · split
      · omega
      · split
        · omega
        · split
          · omega
          · split <;> omega
    · split
      · split <;> omega
      · omega

/-- What Judge finds in a history and in a beginning of it. -/
theorem begins_law (qs : List Qc) (es : List Ent) (c : Nat) (hc : c ≤ es.length) :
    (judgeL qs es = (-1, 0) ∧ judgeL qs (es.take c) = (-1, 0)) ∨ ∃ i v : Nat, judgeL qs es = ((i : Int), v) ∧ i < es.length ∧ 1 ≤ v ∧ v ≤ 6 ∧ (c ≤ i ∧ judgeL qs (es.take c) = (-1, 0) ∨ i < c ∧ judgeL qs (es.take c) = ((i : Int), v)) := by
  have hl : (es.take c).length = c := by rw [List.length_take]; omega
  rcases judgeL_spec qs es with ⟨h1, h2⟩ | ⟨i, e, he, hw, hf, h3⟩
  · refine .inl ⟨h1, judgeL_none ?_⟩
    rw [hl, fineTo_take (Nat.le_refl _)]
    exact fun j e hj he => h2 j e (by omega) he
  · have hi := (List.getElem?_eq_some_iff.1 he).1
    refine .inr ⟨i, _, h3, hi, by omega, wrongL_six _ _ _, ?_⟩
    rcases Nat.lt_or_ge i c with hic | hic
    · refine .inr ⟨hic, ?_⟩
      have h4 := judgeL_some (qs := qs) (es := es.take c) (i := i) (e := e) (by rw [List.getElem?_take, if_pos hic]; exact he) (by rw [List.take_take, Nat.min_eq_left (by omega)]; exact hw) ((fineTo_take (by omega)).2 hf)
      rwa [List.take_take, Nat.min_eq_left (by omega)] at h4
    · refine .inl ⟨hic, judgeL_none ?_⟩
      rw [hl, fineTo_take (Nat.le_refl _)]
      exact fun j x hj hx => hf j x (by omega) hx

theorem histE_take {es : List Ent} (h : histE es = 0) (c : Nat) : histE (es.take c) = 0 := by
  unfold histE at h ⊢
  split at h
  · cases h
  · rename_i hl
    split at h
    · rename_i ha
      have h1 : ¬ 400 < (es.take c).length := by have := List.length_take_le' c es; omega
      have h2 : (es.take c).all okE = true := by
        rw [List.all_eq_true] at ha ⊢
        exact fun x hx => ha x (List.mem_of_mem_take hx)
      rw [if_neg h1, if_pos h2]
    · cases h

/-- How many of a filtered list come of the first i. -/
def cntTo (p : Int → Bool) (l : List Int) (i : Nat) : Nat := ((l.take i).filter p).length
theorem cntTo_le (p : Int → Bool) (l : List Int) (i : Nat) : cntTo p l i ≤ (l.filter p).length := by
  unfold cntTo
  conv => rhs; rw [← List.take_append_drop i l]
  rw [List.filter_append, List.length_append]; omega
theorem cntTo_end (p : Int → Bool) (l : List Int) : cntTo p l l.length = (l.filter p).length := by unfold cntTo; rw [List.take_length]
theorem cntTo_yes {p : Int → Bool} {l : List Int} {i : Nat} {m : Int} (h : l[i]? = some m) (hp : p m = true) : cntTo p l (i + 1) = cntTo p l i + 1 ∧ cntTo p l i < (l.filter p).length ∧ (l.filter p)[cntTo p l i]? = some m := by
  have h1 : cntTo p l (i + 1) = cntTo p l i + 1 := by
    unfold cntTo
    rw [List.take_add_one, h]
    simp [hp]
  have h2 := cntTo_le p l (i + 1)
  refine ⟨h1, by omega, ?_⟩
  have h3 : l.filter p = (l.take i).filter p ++ (m :: (l.drop (i + 1)).filter p) := by
    conv => lhs; rw [← List.take_append_drop i l]
    rw [List.filter_append]
    congr 1
    obtain ⟨hi, rfl⟩ := List.getElem?_eq_some_iff.1 h
    rw [List.drop_eq_getElem_cons hi, List.filter_cons, if_pos hp]
  rw [h3]
  unfold cntTo
  rw [List.getElem?_append_right (Nat.le_refl _)]
  simp
theorem cntTo_no {p : Int → Bool} {l : List Int} {i : Nat} {m : Int} (h : l[i]? = some m) (hp : p m = false) : cntTo p l (i + 1) = cntTo p l i ∧ ∀ x, (l.filter p)[cntTo p l i]? = some x → ¬ x = m := by
  constructor
  · unfold cntTo
    rw [List.take_add_one, h]
    simp [hp]
  · intro x hx e
    have hm : x ∈ l.filter p := List.mem_of_getElem? hx
    rw [e, List.mem_filter, hp] at hm
    cases hm.2
theorem asc_at {l : List Int} (ha : Asc l) {i : Nat} {x y : Int} (hx : l[i]? = some x) (hy : l[i + 1]? = some y) : x < y := by
  unfold Asc at ha
  rw [List.pairwise_iff_getElem] at ha
  obtain ⟨h1, rfl⟩ := List.getElem?_eq_some_iff.1 hx
  obtain ⟨h2, rfl⟩ := List.getElem?_eq_some_iff.1 hy
  exact ha i (i + 1) h1 h2 (by omega)

end Go.Proofs.Ytgincippgaecfaa.Au
