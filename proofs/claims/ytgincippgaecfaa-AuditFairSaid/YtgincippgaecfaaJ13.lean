/-
  What a judge's maps hold behind the first entries; what each kind of entry turns in them. No program's code in sight.
-/
import Derived.Test.YtgincippgaecfaaJ14
import Derived.Test.YtgincippgaecfaaL1
namespace Go.Proofs.Ytgincippgaecfaa.Au
open Go Go.RowKit

/-- An entry as the tallies count it: without its kind. -/
def alikeV (e : Ent) : Value := .agg #[.int .i64 0, .int .i64 e.who, .string e.queue, .int .i64 e.msg, .int .i64 e.count, .bool e.dur]

theorem alikeE_iff {e x : Ent} : alikeE true e x = true ↔ alikeV e = alikeV x := by
  unfold alikeE alikeV
  simp only [Bool.and_eq_true, decide_eq_true_eq, beq_iff_eq, Bool.not_true, Bool.false_or, Value.agg.injEq, Array.mk.injEq, List.cons.injEq, and_true, true_and, Value.int.injEq, Value.string.injEq, Value.bool.injEq]
  constructor
  · rintro ⟨⟨⟨⟨h1, h2⟩, h3⟩, h4⟩, h5⟩
    exact ⟨h1.symm, (string_inj h2).symm, h3.symm, h5.symm, h4.symm⟩
  · rintro ⟨h1, h2, h3, h5, h4⟩
    exact ⟨⟨⟨⟨h1.symm, by rw [h2]⟩, h3.symm⟩, h4.symm⟩, h5.symm⟩
theorem alikeE_refl (e : Ent) : alikeE true e e = true := alikeE_iff.2 rfl

theorem countL_snoc (pre : List Ent) (x e : Ent) (one two : Int) (cnt : Bool) : countL (pre ++ [x]) e one two cnt = countL pre e one two cnt + if matchE e x one two cnt then 1 else 0 := by
  unfold countL
  simp only [List.countP_append, List.countP_cons, List.countP_nil, Nat.zero_add]
  rfl
theorem countL_congr {pre : List Ent} {e e' : Ent} (h : alikeV e = alikeV e') (one two : Int) : countL pre e one two true = countL pre e' one two true := by
  unfold countL
  congr 1
  funext x
  have : alikeE true e x = alikeE true e' x := by
    rw [Bool.eq_iff_iff, alikeE_iff, alikeE_iff, h]
  rw [this]
theorem countL_le (pre : List Ent) (e : Ent) (one two : Int) (cnt : Bool) : countL pre e one two cnt ≤ pre.length := List.countP_le_length

/-- How many are open of an entry: sent and not told of. -/
def openC (pre : List Ent) (e : Ent) : Int := (countL pre e 1 1 true : Int) - countL pre e 2 3 true
/-- How many are held: got and not answered. -/
def heldC (pre : List Ent) (e : Ent) : Int := (countL pre e 4 4 true : Int) - countL pre e 5 6 true
def backC (pre : List Ent) (m : Int) : Int := (pre.countP fun x => decide (x.msg = m) && decide (x.kind = 6) : Nat)
def sentL (pre : List Ent) (m : Int) : List Ent := pre.filter fun x => decide (x.msg = m) && decide (x.kind = 1)

theorem openC_snoc (pre : List Ent) (x e : Ent) : openC (pre ++ [x]) e = openC pre e + (if alikeE true e x = true then (if x.kind = 1 then 1 else if x.kind = 2 ∨ x.kind = 3 then -1 else 0) else 0) := by
  unfold openC
  rw [countL_snoc, countL_snoc]
  unfold matchE
  cases ha : alikeE true e x with
  | true =>
    rw [if_pos rfl]
    by_cases h1 : x.kind = 1
    · simp [h1]; omega
    · by_cases h2 : x.kind = 2
      · simp [h2]; omega
      · by_cases h3 : x.kind = 3
        · simp [h3]; omega
        · simp [h1, h2, h3]
  | false => simp
theorem heldC_snoc (pre : List Ent) (x e : Ent) : heldC (pre ++ [x]) e = heldC pre e + (if alikeE true e x = true then (if x.kind = 4 then 1 else if x.kind = 5 ∨ x.kind = 6 then -1 else 0) else 0) := by
  unfold heldC
  rw [countL_snoc, countL_snoc]
  unfold matchE
  cases ha : alikeE true e x with
  | true =>
    rw [if_pos rfl]
    by_cases h1 : x.kind = 4
    · simp [h1]; omega
    · by_cases h2 : x.kind = 5
      · simp [h2]; omega
      · by_cases h3 : x.kind = 6
        · simp [h3]; omega
        · simp [h1, h2, h3]
  | false => simp
theorem backC_snoc (pre : List Ent) (x : Ent) (m : Int) : backC (pre ++ [x]) m = backC pre m + if x.msg = m ∧ x.kind = 6 then 1 else 0 := by
  unfold backC
  simp only [List.countP_append, List.countP_cons, List.countP_nil, Nat.zero_add]
  by_cases h : x.msg = m ∧ x.kind = 6
  · simp [h]
  · rw [if_neg h]
    have : (decide (x.msg = m) && decide (x.kind = 6)) = false := by
      rw [Bool.eq_false_iff]; intro h'; simp at h'; exact h h'
    simp [this]
theorem sentL_snoc (pre : List Ent) (x : Ent) (m : Int) : sentL (pre ++ [x]) m = sentL pre m ++ if x.msg = m ∧ x.kind = 1 then [x] else [] := by
  unfold sentL
  rw [List.filter_append]
  congr 1
  by_cases h : x.msg = m ∧ x.kind = 1
  · simp [h]
  · rw [if_neg h]
    have : (decide (x.msg = m) && decide (x.kind = 1)) = false := by
      rw [Bool.eq_false_iff]; intro h'; simp at h'; exact h h'
    simp [this]
theorem sentL_len (pre : List Ent) (m : Int) : (sentL pre m).length ≤ pre.length := List.length_filter_le _ _
theorem backC_le (pre : List Ent) (m : Int) : 0 ≤ backC pre m ∧ backC pre m ≤ pre.length := by
  unfold backC
  have := List.countP_le_length (p := fun x : Ent => decide (x.msg = m) && decide (x.kind = 6)) (l := pre)
  omega

/-- A tally of entries. -/
def JTal (b n : Nat) (c : Ent → Int) (W : World) : Prop := ∃ f, MapV W 55 b n (.int .i64 0) f ∧ ∀ e, f (alikeV e) = .int .i64 (c e)
/-- How often messages were given back. -/
def JBack (b n : Nat) (c : Int → Int) (W : World) : Prop := ∃ f, MapV W 3 b n (.int .i64 0) f ∧ ∀ m, f (.int .i64 m) = .int .i64 (c m)
/-- What was sent of each message, in rows of their own from block B on. -/
def JSent (B b n : Nat) (c : Int → List Ent) (W : World) : Prop :=
  ∃ f, MapV W 3 b n (.slice none 0 0) f ∧ (∀ m, W.ownsRow B 55 6 (f (.int .i64 m)) (c m).length (cellsOf (c m))) ∧ ∀ m m', m ≠ m' → ∀ g, (f (.int .i64 m)).ownBlock = some g → (f (.int .i64 m')).ownBlock ≠ some g
/-- Where the dead ones go, in rows between the blocks B and B2. -/
def JDead (B B2 b : Nat) (qs : List Qc) (W : World) : Prop :=
  ∃ N fd, DeadAt B W b N fd qs ∧ ∀ s : ByteArray, s.size ≤ maxLen → ∀ g, (fd (.string s)).ownBlock = some g → g < B2

section
variable {W W' : World} {b n B B2 : Nat} {row : Option Nat}

theorem ownsRow_kept {base e size n : Nat} {v : Value} {xs : List Value} (h : W.ownsRow base e size v n xs) (hg : W.grownBy W' row) (hr : ∀ r, row = some r → v.ownBlock ≠ some r) : W'.ownsRow base e size v n xs :=
  ownsRow_block h fun g hb => hg.block g (World.ownsRow.lt h g hb).2 fun e => hr g e.symm hb

theorem JTal.kept {c : Ent → Int} (h : JTal b n c W) (hg : W.grownBy W' row) (hne : some b ≠ row) : JTal b n c W' := by
  obtain ⟨f, h1, h2⟩ := h
  exact ⟨f, h1.kept hg hne, h2⟩
theorem JTal.mono {c : Ent → Int} (h : JTal b n c W) {m : Nat} (hm : n ≤ m) : JTal b m c W := by
  obtain ⟨f, h1, h2⟩ := h
  exact ⟨f, h1.mono hm, h2⟩
theorem JTal.congr {c c' : Ent → Int} (h : JTal b n c W) (hc : ∀ e, c' e = c e) : JTal b n c' W := by
  obtain ⟨f, h1, h2⟩ := h
  exact ⟨f, h1, fun e => by rw [hc]; exact h2 e⟩
theorem JTal.step {c c' : Ent → Int} {f : Value → Value} (hf : ∀ e, f (alikeV e) = .int .i64 (c e)) {x : Ent} {k : Int} (hM : MapV W 55 b n (.int .i64 0) (upd f (alikeV x) (.int .i64 k)))
    (hc : ∀ e, c' e = if alikeE true e x = true then k else c e) : JTal b n c' W := by
  refine ⟨_, hM, fun e => ?_⟩
  rw [hc]
  by_cases h : alikeV e = alikeV x
  · rw [if_pos (alikeE_iff.2 h), h, upd_same]
  · rw [if_neg (fun h' => h (alikeE_iff.1 h')), upd_other _ _ _ h, hf]
theorem JBack.kept {c : Int → Int} (h : JBack b n c W) (hg : W.grownBy W' row) (hne : some b ≠ row) : JBack b n c W' := by
  obtain ⟨f, h1, h2⟩ := h
  exact ⟨f, h1.kept hg hne, h2⟩
theorem JBack.mono {c : Int → Int} (h : JBack b n c W) {m : Nat} (hm : n ≤ m) : JBack b m c W := by
  obtain ⟨f, h1, h2⟩ := h
  exact ⟨f, h1.mono hm, h2⟩
theorem JBack.congr {c c' : Int → Int} (h : JBack b n c W) (hc : ∀ e, c' e = c e) : JBack b n c' W := by
  obtain ⟨f, h1, h2⟩ := h
  exact ⟨f, h1, fun e => by rw [hc]; exact h2 e⟩
theorem JBack.step {c c' : Int → Int} {f : Value → Value} (hf : ∀ m, f (.int .i64 m) = .int .i64 (c m)) {x k : Int} (hM : MapV W 3 b n (.int .i64 0) (upd f (.int .i64 x) (.int .i64 k))) (hc : ∀ m, c' m = if m = x then k else c m) : JBack b n c' W := by
  refine ⟨_, hM, fun m => ?_⟩
  rw [hc]
  by_cases h : m = x
  · rw [if_pos h, h, upd_same]
  · rw [if_neg h, upd_other _ _ _ (fun e => h (by cases e; rfl)), hf]
theorem JSent.kept {c : Int → List Ent} (h : JSent B b n c W) (hg : W.grownBy W' row) (hne : some b ≠ row) (hr : ∀ r, row = some r → r < B) : JSent B b n c W' := by
  obtain ⟨f, h1, h2, h3⟩ := h
  refine ⟨f, h1.kept hg hne, fun m => ownsRow_kept (h2 m) hg fun r e hb => ?_, h3⟩
  have h4 := (World.ownsRow.lt (h2 m) r hb).1
  have h5 := hr r e
  omega
theorem JSent.mono {c : Int → List Ent} (h : JSent B b n c W) {m : Nat} (hm : n ≤ m) : JSent B b m c W := by
  obtain ⟨f, h1, h2⟩ := h
  exact ⟨f, h1.mono hm, h2⟩
theorem JSent.congr {c c' : Int → List Ent} (h : JSent B b n c W) (hc : ∀ e, c' e = c e) : JSent B b n c' W := by
  obtain ⟨f, h1, h2, h3⟩ := h
  exact ⟨f, h1, fun m => by rw [hc]; exact h2 m, h3⟩
theorem JDead.kept {qs : List Qc} (h : JDead B B2 b qs W) (hg : W.grownBy W' row) (hne : some b ≠ row) (hr : ∀ r, row = some r → r < B ∨ B2 ≤ r) : JDead B B2 b qs W' := by
  obtain ⟨N, fd, h1, h2⟩ := h
  refine ⟨N, fd, ⟨h1.map.kept hg hne, fun s hs => ?_⟩, h2⟩
  obtain ⟨l, a1, a2, a3⟩ := h1.rows s hs
  refine ⟨l, a1, a2, ownsRow_kept a3 hg fun r e hb => ?_⟩
  have h4 := (World.ownsRow.lt a3 r hb).1
  have h5 := h2 s hs r hb
  have h6 := hr r e
  omega

theorem JTal.below {c : Ent → Int} (h : JTal b n c W) (hw : Below W.heap.size W W') : JTal b n c W' := by
  obtain ⟨f, h1, h2⟩ := h
  exact ⟨f, h1.below hw h1.lt, h2⟩
theorem JBack.below {c : Int → Int} (h : JBack b n c W) (hw : Below W.heap.size W W') : JBack b n c W' := by
  obtain ⟨f, h1, h2⟩ := h
  exact ⟨f, h1.below hw h1.lt, h2⟩
theorem JSent.below {c : Int → List Ent} (h : JSent B b n c W) (hw : Below W.heap.size W W') : JSent B b n c W' := by
  obtain ⟨f, h1, h2, h3⟩ := h
  exact ⟨f, h1.below hw h1.lt, fun m => ownsRow_belowJ (h2 m) hw fun g hg => (World.ownsRow.lt (h2 m) g hg).2, h3⟩
theorem JDead.below {qs : List Qc} (h : JDead B B2 b qs W) (hw : Below W.heap.size W W') : JDead B B2 b qs W' := by
  obtain ⟨N, fd, h1, h2⟩ := h
  exact ⟨N, fd, h1.below hw, h2⟩
theorem JTal.lt {c : Ent → Int} (h : JTal b n c W) : b < W.heap.size := by
  obtain ⟨f, h1, h2⟩ := h
  exact h1.lt

/-- One entry more in a message's row. -/
theorem JSent.step {c c' : Int → List Ent} {f : Value → Value} {W1 W2 : World} {x : Ent} {v' : Value} {tmp : Obj} (hBW : B ≤ W.heap.size) (hbB : b < B) (hM : MapV W 3 b n (.slice none 0 0) f) (h2 : ∀ m, W.ownsRow B 55 6 (f (.int .i64 m)) (c m).length (cellsOf (c m)))
    (h3 : ∀ m m', m ≠ m' → ∀ g, (f (.int .i64 m)).ownBlock = some g → (f (.int .i64 m')).ownBlock ≠ some g)
    (hg : (W.alloc tmp).grownBy W1 (f (.int .i64 x.msg)).ownBlock) (hown : W1.ownsRow B 55 6 v' ((c x.msg).length + 1) (cellsOf (c x.msg ++ [x]))) (hat : ∀ g, v'.ownBlock = some g → (f (.int .i64 x.msg)).ownBlock = some g ∨ W.heap.size ≤ g)
    (hM2 : MapV W2 3 b (n + 1) (.slice none 0 0) (upd f (.int .i64 x.msg) v')) (hg2 : W1.grownBy W2 (some b)) (hc : ∀ m, c' m = if m = x.msg then c m ++ [x] else c m) : JSent B b (n + 1) c' W2 := by
  have hne : ∀ m, m ≠ x.msg → upd f (.int .i64 x.msg) v' (.int .i64 m) = f (.int .i64 m) := fun m hm => upd_other _ _ _ (fun e => hm (by cases e; rfl))
  refine ⟨_, hM2, fun m => ?_, fun m m' hmm g hb hb' => ?_⟩
  · rw [hc]
    by_cases h : m = x.msg
    · subst h
      rw [if_pos rfl, upd_same]
      refine ownsRow_kept (by simpa using hown) hg2 fun r e hb => ?_
      have := Option.some.inj e
      have := (World.ownsRow.lt hown r hb).1
      omega
    · rw [if_neg h, hne m h]
      have h5 : W1.ownsRow B 55 6 (f (.int .i64 m)) (c m).length (cellsOf (c m)) := by
        refine ownsRow_kept (ownsRow_block (B := W.alloc tmp) (h2 m) fun g hb => Below.heap_alloc W tmp g (World.ownsRow.lt (h2 m) g hb).2) hg fun r e hb => ?_
        exact h3 _ _ (fun e => h e.symm) r e hb
      refine ownsRow_kept h5 hg2 fun r e hb => ?_
      have := Option.some.inj e
      have := (World.ownsRow.lt h5 r hb).1
      omega
  · by_cases h : m = x.msg
    · subst h
      rw [upd_same] at hb
      rw [hne m' (fun e => hmm e.symm)] at hb'
      rcases hat g hb with h6 | h6
      · exact h3 _ _ hmm g h6 hb'
      · have := (World.ownsRow.lt (h2 m') g hb').2
        omega
    · rw [hne m h] at hb
      by_cases h' : m' = x.msg
      · subst h'
        rw [upd_same] at hb'
        rcases hat g hb' with h6 | h6
        · exact h3 _ _ hmm g hb h6
        · have := (World.ownsRow.lt (h2 m) g hb).2
          omega
      · rw [hne m' h'] at hb'
        exact h3 _ _ hmm g hb hb'
end

/-- THE JUDGE behind the entries pre; its blocks lie from S on, the rows of what was sent from B2 on. -/
structure JI (S B2 : Nat) (w0 : World) (qs : List Qc) (pre : List Ent) (W : World) : Prop where
  below : Below S w0 W
  from_ : S ≤ w0.heap.size
  lo : S + 6 ≤ B2
  size : B2 ≤ W.heap.size
  box : W.heap[S + 5]? = some (.cells #[.map (some S), .map (some (S + 1)), .map (some (S + 2)), .map (some (S + 3)), .map (some (S + 4))] 66 (0, 0))
  dead : JDead (S + 6) B2 S qs W
  open_ : JTal (S + 1) pre.length (openC pre) W
  held : JTal (S + 2) pre.length (heldC pre) W
  sent : JSent B2 (S + 3) pre.length (sentL pre) W
  back : JBack (S + 4) pre.length (backC pre) W
  fine : ∀ e, 0 ≤ openC pre e ∧ 0 ≤ heldC pre e

section
variable {S B2 : Nat} {w0 W W' : World} {qs : List Qc} {pre : List Ent}

theorem JI.later (h : JI S B2 w0 qs pre W) (hw : Below W.heap.size W W') : JI S B2 w0 qs pre W' := by
  have := h.lo
  have hs := h.size
  exact ⟨h.below.trans (hw.mono (by omega)), h.from_, h.lo, Nat.le_trans h.size hw.size, (hw.block _ (by omega)).trans h.box, h.dead.below hw, h.open_.below hw, h.held.below hw, h.sent.below hw, h.back.below hw, h.fine⟩
end

end Go.Proofs.Ytgincippgaecfaa.Au
