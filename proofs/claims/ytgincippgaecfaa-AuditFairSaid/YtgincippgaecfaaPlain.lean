/-
  The plain law of Order (no program in sight): histories as lists; 'sorted by the first got, the first sent rise' is what the reference's single pass says.
-/
namespace Go.Proofs.Ytgincippgaecfaa.Au

/-- An entry of a history. -/
structure Ent where
  kind : Int
  who : Int
  queue : ByteArray
  msg : Int
  count : Int
  dur : Bool

/-- May an entry be? -/
def okE (e : Ent) : Bool :=
  if e.kind = 7 then decide (e.who = 0) && decide (e.queue.toList = []) && decide (e.msg = 0) && decide (e.count = 0) && !e.dur
  else if e.kind = 1 ∨ e.kind = 2 ∨ e.kind = 3 then decide (e.count = 0) && (decide (1 ≤ e.who) && decide (e.who ≤ 8) && decide (0 ≤ e.msg))
  else if e.kind = 4 ∨ e.kind = 5 ∨ e.kind = 6 then decide (1 ≤ e.who) && decide (e.who ≤ 8) && decide (0 ≤ e.msg) && decide (0 ≤ e.count)
  else false

/-- What is amiss with a history. -/
def histE (es : List Ent) : Int := if 400 < es.length then 2 else if es.all okE then 0 else 270

def isSent (q : List UInt8) (m : Int) (e : Ent) : Bool := decide (e.kind = 1) && (e.queue.toList == q) && decide (e.msg = m)
def isGot (q : List UInt8) (who : Int) (m : Int) (e : Ent) : Bool := decide (e.kind = 4) && (e.queue.toList == q) && decide (e.msg = m) && decide (e.who = who)

/-- The first place of an entry that meets p, from k on; none. -/
def firstP (p : Ent → Bool) (es : List Ent) : Option Nat := es.findIdx? p

/-- What the reference asks at place i: the place of the first sending, where i is the first place at which the message was got. -/
def stepR (es : List Ent) (q : List UInt8) (who : Int) (i : Nat) : Option (Int × Nat) :=
  match es[i]? with
  | none => none
  | some e =>
    if isGot q who e.msg e = true ∧ firstP (isGot q who e.msg) es = some i then
      (firstP (isSent q e.msg) es).map fun s => (e.msg, s)
    else none

/-- The reference's pass. -/
def passR (es : List Ent) (q : List UInt8) (who : Int) : List Nat → Int → Bool
  | [], _ => true
  | i :: is, last =>
    match stepR es q who i with
    | none => passR es q who is last
    | some (_, s) => if (s : Int) < last then false else passR es q who is s

def orderR (es : List Ent) (q : List UInt8) (who : Int) : Bool := passR es q who (List.range es.length) (-1)

/-- No element of the list lies below the one ahead of it. -/
def rises : List Int → Bool
  | [] => true
  | [_] => true
  | a :: b :: l => !decide (b < a) && rises (b :: l)

def seqR (es : List Ent) (q : List UInt8) (who : Int) : List (Int × Nat) := (List.range es.length).filterMap (stepR es q who)

theorem passR_eq (es : List Ent) (q : List UInt8) (who : Int) (is : List Nat) (last : Int) :
    passR es q who is last = rises (last :: (is.filterMap (stepR es q who)).map fun p => ((p.2 : Nat) : Int)) := by
  induction is generalizing last with
  | nil => simp [passR, rises]
  | cons i is ih =>
    unfold passR
    cases h : stepR es q who i with
    | none => simp [h, ih]
    | some p =>
      obtain ⟨m, s⟩ := p
      simp only [List.filterMap_cons, h, List.map_cons, rises]
      rw [ih]
      by_cases hl : (s : Int) < last <;> simp [hl]

theorem orderR_eq (es : List Ent) (q : List UInt8) (who : Int) : orderR es q who = rises ((seqR es q who).map fun p => ((p.2 : Nat) : Int)) := by
  unfold orderR
  rw [passR_eq]
  show rises ((-1) :: ((seqR es q who).map fun p => ((p.2 : Nat) : Int))) = _
  cases seqR es q who with
  | nil => rfl
  | cons p l =>
    have : ¬ ((p.2 : Nat) : Int) < -1 := by omega
    simp [rises, this]

def gotIx (es : List Ent) (q : List UInt8) (who m : Int) : Option Nat := firstP (isGot q who m) es
def sentIx (es : List Ent) (q : List UInt8) (m : Int) : Option Nat := firstP (isSent q m) es

theorem isGot_msg {q : List UInt8} {who m : Int} {e : Ent} (h : isGot q who m e = true) : e.msg = m := by
  simp [isGot] at h; exact h.1.2

/-- What a step that tells something tells. -/
theorem stepR_some {es : List Ent} {q : List UInt8} {who : Int} {i : Nat} {p : Int × Nat} (h : stepR es q who i = some p) :
    gotIx es q who p.1 = some i ∧ sentIx es q p.1 = some p.2 := by
  unfold stepR at h
  cases he : es[i]? with
  | none => simp [he] at h
  | some e =>
    simp only [he] at h
    split at h
    · rename_i hc
      cases hs : firstP (isSent q e.msg) es with
      | none => simp [hs] at h
      | some s =>
        simp only [hs, Option.map_some, Option.some.injEq] at h
        subst h
        exact ⟨hc.2, hs⟩
    · cases h

/-- .. and whoever was got and sent is told at the place of the first got. -/
theorem stepR_of {es : List Ent} {q : List UInt8} {who m : Int} {i s : Nat} (hg : gotIx es q who m = some i) (hs : sentIx es q m = some s) :
    i < es.length ∧ stepR es q who i = some (m, s) := by
  have hg' := hg
  unfold gotIx firstP at hg
  rw [List.findIdx?_eq_some_iff_getElem] at hg
  obtain ⟨hi, hp, _⟩ := hg
  refine ⟨hi, ?_⟩
  have hm := isGot_msg hp
  unfold stepR
  rw [List.getElem?_eq_getElem hi]
  simp only
  rw [hm]
  rw [if_pos ⟨hp, hg'⟩]
  show (sentIx es q m).map _ = _
  rw [hs]
  rfl

theorem seqR_mem {es : List Ent} {q : List UInt8} {who m : Int} {s : Nat} :
    (m, s) ∈ seqR es q who ↔ (∃ i, gotIx es q who m = some i) ∧ sentIx es q m = some s := by
  unfold seqR
  rw [List.mem_filterMap]
  constructor
  · rintro ⟨i, _, h⟩
    have := stepR_some h
    exact ⟨⟨i, this.1⟩, this.2⟩
  · rintro ⟨⟨i, hi⟩, hs⟩
    obtain ⟨hl, h⟩ := stepR_of hi hs
    exact ⟨i, by simpa using hl, h⟩

def gotAt (es : List Ent) (q : List UInt8) (who m : Int) : Nat := (gotIx es q who m).getD 0
def sentAt (es : List Ent) (q : List UInt8) (m : Int) : Nat := (sentIx es q m).getD 0

theorem seqR_sorted (es : List Ent) (q : List UInt8) (who : Int) :
    ((seqR es q who).map (·.1)).Pairwise fun a b => gotAt es q who a < gotAt es q who b := by
  rw [List.pairwise_map]
  unfold seqR
  rw [List.pairwise_filterMap]
  refine List.pairwise_lt_range.imp ?_
  intro i j hij p hp p' hp'
  have h1 := (stepR_some hp).1
  have h2 := (stepR_some hp').1
  simp [gotAt, h1, h2, hij]

theorem seqR_snd (es : List Ent) (q : List UInt8) (who : Int) : (seqR es q who).map (fun p => ((p.2 : Nat) : Int)) = ((seqR es q who).map (·.1)).map fun m => ((sentAt es q m : Nat) : Int) := by
  rw [List.map_map]
  apply List.map_congr_left
  rintro ⟨m, s⟩ h
  have := (seqR_mem.1 h).2
  simp [sentAt, this]

/-- Two lists that rise strictly by a key and have the same members are one. -/
theorem eq_of_rising {f : Int → Nat} : ∀ {l l' : List Int}, l.Pairwise (fun a b => f a < f b) → l'.Pairwise (fun a b => f a < f b) → (∀ m, m ∈ l ↔ m ∈ l') → l = l'
  | [], [], _, _, _ => rfl
  | [], b :: _, _, _, h => absurd ((h b).2 (by simp)) (by simp)
  | a :: _, [], _, _, h => absurd ((h a).1 (by simp)) (by simp)
  | a :: l, b :: l', h1, h2, h => by
    rw [List.pairwise_cons] at h1 h2
    have hab : a = b := by
      rcases List.mem_cons.1 ((h a).1 (by simp)) with e | hm
      · exact e
      · rcases List.mem_cons.1 ((h b).2 (by simp)) with e | hm'
        · exact e.symm
        · have x := h2.1 a hm
          have y := h1.1 b hm'
          omega
    subst hab
    rw [eq_of_rising h1.2 h2.2 fun m => ?_]
    constructor
    · intro hm
      rcases List.mem_cons.1 ((h m).1 (by simp [hm])) with e | hm'
      · subst e; exact absurd (h1.1 m hm) (by omega)
      · exact hm'
    · intro hm
      rcases List.mem_cons.1 ((h m).2 (by simp [hm])) with e | hm'
      · subst e; exact absurd (h2.1 m hm) (by omega)
      · exact hm'

/-- Different messages were got first at different places. -/
theorem gotIx_inj {es : List Ent} {q : List UInt8} {who m m' : Int} {i : Nat} (h : gotIx es q who m = some i) (h' : gotIx es q who m' = some i) : m = m' := by
  unfold gotIx firstP at h h'
  rw [List.findIdx?_eq_some_iff_getElem] at h h'
  obtain ⟨hi, hp, _⟩ := h
  obtain ⟨_, hp', _⟩ := h'
  exact (isGot_msg hp).symm.trans (isGot_msg hp')

/-- THE PLAIN LAW: a list of those that were got and sent, each once, that never falls by the first got: 'the first sent never fall' is what the reference's pass says. -/
theorem order_law (es : List Ent) (q : List UInt8) (who : Int) (l : List Int) (hn : l.Nodup)
    (hm : ∀ m, m ∈ l ↔ (gotIx es q who m).isSome = true ∧ (sentIx es q m).isSome = true)
    (hs : l.Pairwise fun a b => ¬ gotAt es q who b < gotAt es q who a) :
    rises (l.map fun m => ((sentAt es q m : Nat) : Int)) = orderR es q who := by
  rw [orderR_eq, seqR_snd]
  congr 2
  refine eq_of_rising (f := gotAt es q who) ?_ (seqR_sorted es q who) fun m => ?_
  · have hboth := hs.and hn
    refine List.Pairwise.imp_of_mem ?_ hboth
    intro a b ha hb ⟨h1, h2⟩
    obtain ⟨ga, _⟩ := (hm a).1 ha
    obtain ⟨gb, _⟩ := (hm b).1 hb
    obtain ⟨i, hi⟩ := Option.isSome_iff_exists.1 ga
    obtain ⟨j, hj⟩ := Option.isSome_iff_exists.1 gb
    have hij : i ≠ j := fun e => h2 (gotIx_inj hi (e ▸ hj))
    simp only [gotAt, hi, hj, Option.getD_some] at h1 ⊢
    omega
  · rw [hm m, List.mem_map]
    constructor
    · rintro ⟨hg, hs'⟩
      obtain ⟨i, hi⟩ := Option.isSome_iff_exists.1 hg
      obtain ⟨s, hs''⟩ := Option.isSome_iff_exists.1 hs'
      exact ⟨(m, s), seqR_mem.2 ⟨⟨i, hi⟩, hs''⟩, rfl⟩
    · rintro ⟨⟨m', s⟩, h, rfl⟩
      obtain ⟨⟨i, hi⟩, h2⟩ := seqR_mem.1 h
      exact ⟨by simp [hi], by simp [h2]⟩

end Go.Proofs.Ytgincippgaecfaa.Au
