/-
  The plain law of Left (no program in sight): what must be left and what may be, by lists; rising lists.
-/
import Derived.Test.YtgincippgaecfaaPlain
namespace Go.Proofs.Ytgincippgaecfaa.Au

def crashE (e : Ent) : Bool := decide (e.kind = 7)
def takE (q : List UInt8) (m : Int) (e : Ent) : Bool := decide (e.kind = 2) && (e.queue.toList == q) && decide (e.msg = m)
def gotE (m : Int) (e : Ent) : Bool := decide (e.kind = 4) && decide (e.msg = m)

/-- What entry e adds to m's count; late: a crash comes behind it. -/
def dlt (q : List UInt8) (e : Ent) (late : Bool) (m : Int) : Int := if gotE m e then -1 else if takE q m e && (e.dur || !late) then 1 else 0

/-- The backward pass's count of m. -/
def moreL (q : List UInt8) : List Ent → Int → Int
  | [], _ => 0
  | e :: r, m => moreL q r m + dlt q e (r.any crashE) m

theorem dlt_bound (q : List UInt8) (e : Ent) (late : Bool) (m : Int) : -1 ≤ dlt q e late m ∧ dlt q e late m ≤ 1 := by
  unfold dlt
  split
  · omega
  · split <;> omega

theorem moreL_bound (q : List UInt8) (m : Int) : ∀ es : List Ent, -(es.length : Int) ≤ moreL q es m ∧ moreL q es m ≤ es.length
  | [] => by simp [moreL]
  | e :: r => by
    have := moreL_bound q m r
    have := dlt_bound q e (r.any crashE) m
    simp only [moreL, List.length_cons]
    omega

/-- The reference's two counts. -/
def tkL (q : List UInt8) (m : Int) : List Ent → Int
  | [] => 0
  | e :: r => (if takE q m e && (e.dur || !(e :: r).any crashE) then 1 else 0) + tkL q m r
def gtL (m : Int) : List Ent → Int
  | [] => 0
  | e :: r => (if gotE m e then 1 else 0) + gtL m r

theorem moreL_eq (q : List UInt8) (m : Int) : ∀ es : List Ent, moreL q es m = tkL q m es - gtL m es
  | [] => rfl
  | e :: r => by
    have ih := moreL_eq q m r
    simp only [moreL, tkL, gtL, ih, dlt]
    cases hg : gotE m e with
    | true =>
      have ht : takE q m e = false := by
        simp only [gotE, Bool.and_eq_true, decide_eq_true_eq] at hg
        simp [takE, hg.1]
      simp [ht]; omega
    | false =>
      cases ht : takE q m e with
      | false => simp
      | true =>
        have hc : crashE e = false := by
          simp only [takE, Bool.and_eq_true, decide_eq_true_eq] at ht
          simp [crashE, ht.1.1]
        simp only [List.any_cons, hc, Bool.false_or, Bool.true_and, Bool.false_eq_true, if_false]
        split <;> omega

def tkN (q : List UInt8) (m : Int) (es : List Ent) : Nat := (tkL q m es).toNat
theorem tkL_nonneg (q : List UInt8) (m : Int) : ∀ es : List Ent, 0 ≤ tkL q m es ∧ tkL q m es ≤ es.length
  | [] => by simp [tkL]
  | e :: r => by
    have := tkL_nonneg q m r
    simp only [tkL, List.length_cons]
    split <;> omega
theorem gtL_nonneg (m : Int) : ∀ es : List Ent, 0 ≤ gtL m es ∧ gtL m es ≤ es.length
  | [] => by simp [gtL]
  | e :: r => by
    have := gtL_nonneg m r
    simp only [gtL, List.length_cons]
    split <;> omega

/-- Rising strictly. -/
def Asc (l : List Int) : Prop := l.Pairwise (· < ·)

/-- A rising list of just those that were sent to q. -/
def MayL (es : List Ent) (q : List UInt8) (l : List Int) : Prop := Asc l ∧ ∀ m, m ∈ l ↔ es.any (isSent q m) = true

/-- There is one such list. -/
theorem asc_unique : ∀ {l l' : List Int}, Asc l → Asc l' → (∀ m, m ∈ l ↔ m ∈ l') → l = l'
  | [], [], _, _, _ => rfl
  | [], b :: _, _, _, h => absurd ((h b).2 (by simp)) (by simp)
  | a :: _, [], _, _, h => absurd ((h a).1 (by simp)) (by simp)
  | a :: l, b :: l', h1, h2, h => by
    unfold Asc at h1 h2
    rw [List.pairwise_cons] at h1 h2
    have hab : a = b := by
      rcases List.mem_cons.1 ((h a).1 (by simp)) with e | hm
      · exact e
      · rcases List.mem_cons.1 ((h b).2 (by simp)) with e | hm'
        · exact e.symm
        · have x := h2.1 a hm
          have y := h1.1 b hm'
          omega
    subst hab
    rw [asc_unique h1.2 h2.2 fun m => ?_]
    constructor
    · intro hm
      rcases List.mem_cons.1 ((h m).1 (by simp [hm])) with e | hm'
      · subst e; exact absurd (h1.1 m hm) (by omega)
      · exact hm'
    · intro hm
      rcases List.mem_cons.1 ((h m).2 (by simp [hm])) with e | hm'
      · subst e; exact absurd (h2.1 m hm) (by omega)
      · exact hm'
theorem MayL.unique {es : List Ent} {q : List UInt8} {l l' : List Int} (h : MayL es q l) (h' : MayL es q l') : l = l' := asc_unique h.1 h'.1 fun m => (h.2 m).trans (h'.2 m).symm

/-- Which of those that may be left must be. -/
def mustOf (es : List Ent) (q : List UInt8) (l : List Int) : List Int := l.filter fun m => decide (0 < moreL q es m)

/-- One step of the reference's rising. -/
def riseStep (n : Int) (s : List Int × Bool) (x : Int) : List Int × Bool :=
  let s' := if !s.2 && decide (n ≤ x) then (s.1 ++ [n], true) else s
  if x = n then s' else (s'.1 ++ [x], s'.2)
def riseTo (l : List Int) (n : Int) : List Int × Bool := l.foldl (riseStep n) ([], false)
def riseL (l : List Int) (n : Int) : List Int := let s := riseTo l n; if s.2 then s.1 else s.1 ++ [n]

theorem riseTo_snoc (l : List Int) (x n : Int) : riseTo (l ++ [x]) n = riseStep n (riseTo l n) x := by simp [riseTo]

theorem snoc_ind {P : List Int → Prop} (h0 : P []) (h1 : ∀ l x, P l → P (l ++ [x])) (l : List Int) : P l := by
  have : ∀ r : List Int, P r.reverse := fun r => by
    induction r with
    | nil => exact h0
    | cons x r ih => rw [List.reverse_cons]; exact h1 _ _ ih
  have h := this l.reverse
  rwa [List.reverse_reverse] at h

theorem riseTo_asc (n : Int) : ∀ l : List Int, Asc l → (riseTo l n).2 = l.any (fun x => decide (n ≤ x)) ∧ (riseTo l n).1 = l.filter (fun x => decide (x < n)) ++ (if l.any (fun x => decide (n ≤ x)) then [n] else []) ++ l.filter (fun x => decide (n < x)) := by
  refine snoc_ind (by simp [riseTo]) ?_
  intro l x ih
  · intro ha
    have ha' : Asc l ∧ ∀ y ∈ l, y < x := by
      unfold Asc at ha ⊢
      rw [List.pairwise_append] at ha
      exact ⟨ha.1, fun y hy => ha.2.2 y hy x (by simp)⟩
    obtain ⟨i1, i2⟩ := ih ha'.1
    rw [riseTo_snoc]
    unfold riseStep
    rw [i1]
    rcases Int.lt_trichotomy x n with hx | hx | hx
    · -- all below n
      have hno : l.any (fun x => decide (n ≤ x)) = false := by
        rw [List.any_eq_false]; intro y hy; have := ha'.2 y hy; simp; omega
      have hf : l.filter (fun x => decide (n < x)) = [] := by
        rw [List.filter_eq_nil_iff]; intro y hy; have := ha'.2 y hy; simp; omega
      have h1 : ¬ n ≤ x := by omega
      have h2 : ¬ x = n := by omega
      have h3 : ¬ n < x := by omega
      simp [hno, h1, h2, i2, hf, hx, i1, h3]
    · subst hx
      have hno : l.any (fun y => decide (x ≤ y)) = false := by
        rw [List.any_eq_false]; intro y hy; have := ha'.2 y hy; simp; omega
      have hf : l.filter (fun y => decide (x < y)) = [] := by
        rw [List.filter_eq_nil_iff]; intro y hy; have := ha'.2 y hy; simp; omega
      simp [hno, i2, hf]
    · have h1 : n ≤ x := by omega
      have h2 : ¬ x = n := by omega
      have h3 : ¬ x < n := by omega
      cases hany : l.any (fun y => decide (n ≤ y)) with
      | true => simp [h1, h2, i2, hany, hx, h3, i1]
      | false =>
        have hf : l.filter (fun y => decide (n < y)) = [] := by
          rw [List.filter_eq_nil_iff]; intro y hy
          rw [List.any_eq_false] at hany
          have := hany y hy
          simp at this ⊢; omega
        simp [h1, h2, i2, hany, hx, h3, hf]

theorem riseL_asc {l : List Int} (h : Asc l) (n : Int) : Asc (riseL l n) ∧ ∀ m, m ∈ riseL l n ↔ m ∈ l ∨ m = n := by
  obtain ⟨h1, h2⟩ := riseTo_asc n l h
  have hl : ∀ y ∈ l.filter (fun x => decide (x < n)), y < n := fun y hy => by simpa using (List.mem_filter.1 hy).2
  have hr : ∀ y ∈ l.filter (fun x => decide (n < x)), n < y := fun y hy => by simpa using (List.mem_filter.1 hy).2
  have e : riseL l n = l.filter (fun x => decide (x < n)) ++ [n] ++ l.filter (fun x => decide (n < x)) := by
    unfold riseL
    simp only [h1]
    cases hany : l.any (fun x => decide (n ≤ x)) with
    | true => simp [h2, hany]
    | false =>
      have hf : l.filter (fun y => decide (n < y)) = [] := by
        rw [List.filter_eq_nil_iff]; intro y hy
        rw [List.any_eq_false] at hany
        have := hany y hy
        simp at this ⊢; omega
      simp [h2, hany, hf]
  rw [e]
  constructor
  · unfold Asc at h ⊢
    rw [List.append_assoc, List.pairwise_append]
    refine ⟨h.filter _, ?_, fun a ha b hb => ?_⟩
    · rw [List.singleton_append, List.pairwise_cons]
      exact ⟨hr, h.filter _⟩
    · have := hl a ha
      rcases List.mem_cons.1 hb with rfl | hb
      · exact this
      · have := hr b hb; omega
  · intro m
    simp only [List.mem_append, List.mem_singleton, List.mem_filter, decide_eq_true_eq]
    constructor
    · rintro ((⟨h, _⟩ | h) | ⟨h, _⟩)
      · exact .inl h
      · exact .inr h
      · exact .inl h
    · rintro (h | h)
      · rcases Int.lt_trichotomy m n with hx | hx | hx
        · exact .inl (.inl ⟨h, hx⟩)
        · exact .inl (.inr hx)
        · exact .inr ⟨h, hx⟩
      · exact .inl (.inr h)

theorem filter_two (n : Int) : ∀ l : List Int, (l.filter (fun x => decide (x < n))).length + (l.filter (fun x => decide (n < x))).length ≤ l.length
  | [] => by simp
  | x :: l => by
    have ih := filter_two n l
    rcases Int.lt_trichotomy x n with hx | hx | hx
    · have h2 : ¬ n < x := by omega
      simp [hx, h2]; omega
    · subst hx; simp; omega
    · have h2 : ¬ x < n := by omega
      simp [hx, h2]; omega
theorem riseL_length {l : List Int} (h : Asc l) (n : Int) : (riseL l n).length ≤ l.length + 1 := by
  obtain ⟨h1, h2⟩ := riseTo_asc n l h
  have h3 := filter_two n l
  unfold riseL
  simp only [h1]
  cases hany : l.any (fun x => decide (n ≤ x)) with
  | true => simp [h2, hany]; omega
  | false => simp [h2, hany]; omega

/-- The reference's list of those that may be left, after the first k entries. -/
theorem MayL.skip {es : List Ent} {q : List UInt8} {k : Nat} {e : Ent} {l : List Int} (h : MayL (es.take k) q l) (he : es[k]? = some e) (hn : ∀ m, isSent q m e = false) : MayL (es.take (k + 1)) q l := by
  refine ⟨h.1, fun m => ?_⟩
  rw [h.2 m, List.take_add_one, he]
  simp [hn m]
theorem MayL.rise {es : List Ent} {q : List UInt8} {k : Nat} {e : Ent} {l : List Int} (h : MayL (es.take k) q l) (he : es[k]? = some e) (hn : ∀ m, isSent q m e = decide (m = e.msg)) : MayL (es.take (k + 1)) q (riseL l e.msg) := by
  obtain ⟨h1, h2⟩ := riseL_asc h.1 e.msg
  refine ⟨h1, fun m => ?_⟩
  rw [h2 m, h.2 m, List.take_add_one, he]
  simp [hn m]
theorem MayL.none (q : List UInt8) : MayL [] q [] := ⟨List.Pairwise.nil, fun m => by simp⟩

end Go.Proofs.Ytgincippgaecfaa.Au
