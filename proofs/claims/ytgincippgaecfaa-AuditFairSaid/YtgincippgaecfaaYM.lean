/-
  PW: The small world of AuditFair: its moves, and what holds of it behind each (no program in sight).
  PX: The small world: no item was sent back more often than the history is long.
  Y1: The small world of AuditFair as it lies in memory. No program's code in sight.
-/
import Derived.Test.YtgincippgaecfaaPB
import Derived.Test.YtgincippgaecfaaJE
namespace Go.Proofs.Ytgincippgaecfaa.Au
open Go Go.RowKit

/-- A message in the world. -/
structure Item where
  number : Int
  durable : Bool
  count : Int
  holder : Int
  queue : ByteArray
  sender : Int
  told : Bool
  gone : Bool

def qQ : ByteArray := ⟨#[113, 117, 101, 117, 101, 47, 113]⟩
def qD : ByteArray := ⟨#[113, 117, 101, 117, 101, 47, 100]⟩
def qO : ByteArray := ⟨#[113, 117, 101, 117, 101, 47, 111, 116, 104, 101, 114]⟩
def worldQ : List Qc := [⟨⟨#[113]⟩, 0, ⟨#[100]⟩, 0, false⟩, ⟨⟨#[100]⟩, 0, ⟨#[]⟩, 0, false⟩]

/-- An entry about a message. -/
def about (kind who : Int) (q : ByteArray) (x : Item) (count : Int) : Ent := ⟨kind, who, q, x.number, count, x.durable⟩
def crashEnt : Ent := ⟨7, 0, ⟨#[]⟩, 0, 0, false⟩
def newItem (n : Nat) (who : Int) (d : Bool) : Item := ⟨n + 1, d, 0, 0, qQ, who, false, false⟩
def crashed (x : Item) : Item := { x with holder := 0, gone := x.gone || (!x.durable && x.told) }
def bumped (x : Item) (f : Bool) : Item := if f then { x with holder := 0, count := x.count + 1, queue := if 2 ≤ x.count + 1 then qD else x.queue } else { x with holder := 0 }

/-- The moves. -/
inductive Move : List Item → List Ent → List Item → List Ent → Prop
  | nop (all h) : Move all h all h
  | send (all h) (who : Int) (d : Bool) (h1 : 1 ≤ who) (h8 : who ≤ 8) : Move all h (all ++ [newItem all.length who d]) (h ++ [about 1 who qQ (newItem all.length who d) 0])
  | tell (all h) (i : Nat) (x : Item) (hx : all[i]? = some x) (ht : x.told = false) : Move all h (all.set i { x with told := true }) (h ++ [about 2 x.sender qQ x 0])
  | get (all h) (i : Nat) (x : Item) (who : Int) (hx : all[i]? = some x) (hg : x.gone = false) (hh : x.holder = 0) (h1 : 1 ≤ who) (h8 : who ≤ 8) : Move all h (all.set i { x with holder := who }) (h ++ [about 4 who x.queue x x.count])
  | answer (all h) (i : Nat) (x : Item) (hx : all[i]? = some x) (hg : x.gone = false) (hh : x.holder ≠ 0) : Move all h (all.set i { x with holder := 0, gone := true }) (h ++ [about 5 x.holder x.queue x x.count])
  | back (all h) (i : Nat) (x : Item) (f : Bool) (hx : all[i]? = some x) (hg : x.gone = false) (hh : x.holder ≠ 0) : Move all h (all.set i (bumped x f)) (h ++ [about 6 x.holder x.queue x x.count])
  | crash (all h) : Move all h (all.map crashed) (h ++ [crashEnt])

def qn : List UInt8 := qQ.toList

/-- What holds of an item at place i. -/
structure ItemI (h : List Ent) (i : Nat) (x : Item) : Prop where
  number : x.number = i + 1
  sender : 1 ≤ x.sender ∧ x.sender ≤ 8
  holder : 0 ≤ x.holder ∧ x.holder ≤ 8
  queue : x.queue = qQ ∨ x.queue = qD
  count : 0 ≤ x.count ∧ x.count ≤ backC h x.number
  sent : sentL h x.number = [about 1 x.sender qQ x 0]
  told0 : x.told = false → openC h (about 1 x.sender qQ x 0) = 1 ∧ tkL qn x.number h = 0
  told1 : tkL qn x.number h ≤ 1
  held : x.holder ≠ 0 → 1 ≤ heldC h (about 4 x.holder x.queue x x.count) ∧ 1 ≤ gtL x.number h
  gone : x.gone = true → 1 ≤ gtL x.number h ∨ (x.told = true ∧ tkL qn x.number h ≤ 0)
  dur : ∀ e ∈ h, e.kind = 2 → e.msg = x.number → e.dur = x.durable

/-- What holds of the world. -/
structure Inv (all : List Item) (h : List Ent) : Prop where
  items : ∀ i x, all[i]? = some x → ItemI h i x
  ents : ∀ e ∈ h, okE e = true ∧ (e.kind = 7 ∨ (1 ≤ e.msg ∧ e.msg ≤ all.length)) ∧ 0 ≤ e.count ∧ e.count ≤ h.length ∧ e.queue.size ≤ 100
  fine : FineTo worldQ h h.length

theorem Inv.start : Inv [] [] := ⟨fun i x h => by simp at h, fun e h => by simp at h, fun j e h => absurd h (Nat.not_lt_zero _)⟩

/-! ### Lists that grow at their end. -/
theorem gtL_snoc (m : Int) (e : Ent) : ∀ h : List Ent, gtL m (h ++ [e]) = gtL m h + if gotE m e then 1 else 0
  | [] => by simp [gtL]
  | x :: h => by
    simp only [List.cons_append, gtL, gtL_snoc m e h]
    omega
theorem any_crash_snoc (h : List Ent) (e : Ent) : (h ++ [e]).any crashE = (h.any crashE || crashE e) := by simp
theorem tkL_snoc (q : List UInt8) (m : Int) {e : Ent} (he : crashE e = false) : ∀ h : List Ent, tkL q m (h ++ [e]) = tkL q m h + if takE q m e then 1 else 0
  | [] => by
    simp only [List.nil_append, tkL, List.any_cons, he, List.any_nil]
    simp
  | x :: h => by
    have h1 : (x :: h ++ [e]).any crashE = (x :: h).any crashE := by rw [any_crash_snoc, he, Bool.or_false]
    simp only [List.cons_append] at h1 ⊢
    simp only [tkL, tkL_snoc q m he h, h1]
    omega
/-- Behind a crash what was taken and is not durable counts no longer. -/
theorem tkL_crash (q : List UInt8) (m : Int) {e : Ent} (he : crashE e = true) : ∀ h : List Ent, tkL q m (h ++ [e]) ≤ tkL q m h ∧ ((∀ x ∈ h, takE q m x = true → x.dur = false) → tkL q m (h ++ [e]) = 0)
  | [] => by
    have : takE q m e = false := by
      simp only [crashE, decide_eq_true_eq] at he
      simp [takE, he]
    simp [tkL, this]
  | x :: h => by
    obtain ⟨h1, h2⟩ := tkL_crash q m he h
    have h3 : (x :: h ++ [e]).any crashE = true := by rw [any_crash_snoc, he, Bool.or_true]
    simp only [List.cons_append] at h3 ⊢
    simp only [tkL, h3, Bool.not_true, Bool.or_false]
    constructor
    · cases takE q m x <;> cases x.dur <;> simp <;> (try split) <;> omega
    · intro hd
      have h4 := h2 fun y hy => hd y (by simp [hy])
      have h5 := hd x (by simp)
      rw [h4]
      cases ht : takE q m x with
      | false => simp
      | true => rw [h5 ht]; simp
theorem fineTo_snoc {qs : List Qc} {h : List Ent} {e : Ent} (hf : FineTo qs h h.length) (hw : wrongL qs h e = 0) : FineTo qs (h ++ [e]) (h ++ [e]).length := by
  intro j x hj hx
  rw [List.length_append, List.length_singleton] at hj
  rcases Nat.lt_or_ge j h.length with h1 | h1
  · rw [List.getElem?_append_left h1] at hx
    rw [List.take_append_of_le_length (by omega)]
    exact hf j x h1 hx
  · obtain rfl : j = h.length := by omega
    rw [List.getElem?_append_right (Nat.le_refl _)] at hx
    simp at hx
    subst hx
    rw [List.take_append_of_le_length (Nat.le_refl _), List.take_length]
    exact hw

/-- Nothing is told of a message that no entry names. -/
theorem count_none {h : List Ent} {e : Ent} (hn : ∀ x ∈ h, x.kind = 7 ∨ x.msg ≠ e.msg) {one two : Int} (h1 : one ≠ 7) (h2 : two ≠ 7) (cnt : Bool) : countL h e one two cnt = 0 := by
  unfold countL
  rw [List.countP_eq_zero]
  intro x hx
  rcases hn x hx with h3 | h3
  · simp only [h3]
    simp
    intro h4
    rcases h4 with h4 | h4
    · exact absurd h4.symm h1
    · exact absurd h4.symm h2
  · simp [alikeE, h3]
theorem openC_none {h : List Ent} {e : Ent} (hn : ∀ x ∈ h, x.kind = 7 ∨ x.msg ≠ e.msg) : openC h e = 0 := by
  unfold openC
  rw [count_none hn (by decide) (by decide), count_none hn (by decide) (by decide)]; rfl
theorem heldC_none {h : List Ent} {e : Ent} (hn : ∀ x ∈ h, x.kind = 7 ∨ x.msg ≠ e.msg) : heldC h e = 0 := by
  unfold heldC
  rw [count_none hn (by decide) (by decide), count_none hn (by decide) (by decide)]; rfl
theorem sentL_none {h : List Ent} {m : Int} (hn : ∀ x ∈ h, x.kind = 7 ∨ x.msg ≠ m) : sentL h m = [] := by
  unfold sentL
  rw [List.filter_eq_nil_iff]
  intro x hx
  rcases hn x hx with h3 | h3
  · simp [h3]
  · simp [h3]
theorem tkL_none {q : List UInt8} {m : Int} : ∀ {h : List Ent}, (∀ x ∈ h, x.kind = 7 ∨ x.msg ≠ m) → tkL q m h = 0
  | [], _ => rfl
  | x :: h, hn => by
    have : takE q m x = false := by
      rcases hn x (by simp) with h3 | h3
      · simp [takE, h3]
      · simp [takE, h3]
    have ih := tkL_none (q := q) (m := m) (h := h) fun y hy => hn y (List.mem_cons_of_mem _ hy)
    simp [tkL, this, ih]
theorem alike_msg {e x : Ent} (h : x.msg ≠ e.msg) (cnt : Bool) : alikeE cnt e x = false := by
  simp [alikeE, h]

/-! ### One item, behind one entry more. -/
section
variable {h : List Ent} {i : Nat} {x : Item} {e : Ent}

theorem alike_no (hm : e.msg ≠ x.number) (k who : Int) (q : ByteArray) (c : Int) : alikeE true (about k who q x c) e = false := alike_msg (e := about k who q x c) hm true

/-- An entry about another message. -/
theorem ItemI.other (H : ItemI h i x) (hm : e.msg ≠ x.number) (hk : e.kind ≠ 7) : ItemI (h ++ [e]) i x := by
  have hc : crashE e = false := by simp [crashE, hk]
  have ht : takE qn x.number e = false := by simp [takE, hm]
  have hg : gotE x.number e = false := by simp [gotE, hm]
  have e1 := tkL_snoc qn x.number hc h
  have e2 := gtL_snoc x.number e h
  rw [ht] at e1
  rw [hg] at e2
  simp only [Bool.false_eq_true, if_false, Int.add_zero] at e1 e2
  refine ⟨H.number, H.sender, H.holder, H.queue, ?_, ?_, ?_, ?_, ?_, ?_, ?_⟩
  · rw [backC_snoc, if_neg (fun a => hm a.1), Int.add_zero]; exact H.count
  · rw [sentL_snoc, if_neg (fun a => hm a.1), List.append_nil]; exact H.sent
  · intro h0
    rw [openC_snoc, alike_no hm, e1]
    simpa using H.told0 h0
  · rw [e1]; exact H.told1
  · intro h0
    rw [heldC_snoc, alike_no hm, e2]
    simpa using H.held h0
  · intro h0
    rw [e1, e2]; exact H.gone h0
  · intro y hy hk2 hm2
    rcases List.mem_append.1 hy with hy | hy
    · exact H.dur y hy hk2 hm2
    · simp at hy; subst hy; exact absurd hm2 hm

/-- A crash. -/
theorem ItemI.crash (H : ItemI h i x) : ItemI (h ++ [crashEnt]) i (crashed x) := by
  have hc : crashE crashEnt = true := by simp [crashE, crashEnt]
  have hg : gotE x.number crashEnt = false := by simp [gotE, crashEnt]
  obtain ⟨t1, t2⟩ := tkL_crash qn x.number hc h
  have t0 := (tkL_nonneg qn x.number (h ++ [crashEnt])).1
  have e2 := gtL_snoc x.number crashEnt h
  rw [hg] at e2
  simp only [Bool.false_eq_true, if_false, Int.add_zero] at e2
  refine ⟨H.number, H.sender, ⟨by simp [crashed], by simp [crashed]⟩, H.queue, ?_, ?_, ?_, ?_, ?_, ?_, ?_⟩
  · show 0 ≤ x.count ∧ x.count ≤ backC (h ++ [crashEnt]) x.number
    rw [backC_snoc, if_neg (fun a => by simp [crashEnt] at a), Int.add_zero]; exact H.count
  · show sentL (h ++ [crashEnt]) x.number = [about 1 x.sender qQ x 0]
    rw [sentL_snoc, if_neg (fun a => by simp [crashEnt] at a), List.append_nil]; exact H.sent
  · intro h0
    show openC (h ++ [crashEnt]) (about 1 x.sender qQ x 0) = 1 ∧ tkL qn x.number (h ++ [crashEnt]) = 0
    have h1 := H.told0 h0
    rw [openC_snoc]
    refine ⟨?_, by omega⟩
    rw [h1.1]; simp [crashEnt]
  · show tkL qn x.number (h ++ [crashEnt]) ≤ 1
    have := H.told1; omega
  · intro h0; simp [crashed] at h0
  · intro h0
    show 1 ≤ gtL x.number (h ++ [crashEnt]) ∨ (x.told = true ∧ tkL qn x.number (h ++ [crashEnt]) ≤ 0)
    have h0' : (x.gone || (!x.durable && x.told)) = true := h0
    rw [e2]
    cases hx : x.gone with
    | true =>
      rcases H.gone hx with a | ⟨a, b⟩
      · exact .inl a
      · exact .inr ⟨a, by omega⟩
    | false =>
      rw [hx] at h0'
      simp at h0'
      refine .inr ⟨h0'.2, ?_⟩
      have := t2 fun y hy ht => by
        simp only [takE, Bool.and_eq_true, decide_eq_true_eq] at ht
        rw [H.dur y hy ht.1.1 ht.2]; exact h0'.1
      omega
  · intro y hy hk2 hm2
    rcases List.mem_append.1 hy with hy | hy
    · exact H.dur y hy hk2 hm2
    · simp at hy; subst hy; simp [crashEnt] at hk2

theorem ItemI.tell (H : ItemI h i x) (ht : x.told = false) : ItemI (h ++ [about 2 x.sender qQ x 0]) i { x with told := true } := by
  have hc : crashE (about 2 x.sender qQ x 0) = false := by simp [crashE, about]
  have e1 := tkL_snoc qn x.number hc h
  have e2 := gtL_snoc x.number (about 2 x.sender qQ x 0) h
  have hg : gotE x.number (about 2 x.sender qQ x 0) = false := by simp [gotE, about]
  rw [hg] at e2
  simp only [Bool.false_eq_true, if_false, Int.add_zero] at e2
  have h1 := H.told0 ht
  refine ⟨H.number, H.sender, H.holder, H.queue, ?_, ?_, ?_, ?_, ?_, ?_, ?_⟩
  · show 0 ≤ x.count ∧ x.count ≤ backC (h ++ [_]) x.number
    rw [backC_snoc, if_neg (fun a => by simp [about] at a), Int.add_zero]; exact H.count
  · show sentL (h ++ [_]) x.number = [about 1 x.sender qQ x 0]
    rw [sentL_snoc, if_neg (fun a => by simp [about] at a), List.append_nil]; exact H.sent
  · intro h0; simp at h0
  · show tkL qn x.number (h ++ [_]) ≤ 1
    rw [e1, h1.2]; split <;> omega
  · intro h0
    show 1 ≤ heldC (h ++ [_]) (about 4 x.holder x.queue x x.count) ∧ 1 ≤ gtL x.number (h ++ [_])
    rw [heldC_snoc, e2]
    have := H.held h0
    simp only [about]
    refine ⟨?_, this.2⟩
    have h3 := this.1
    simp only [about] at h3
    simpa using h3
  · intro h0
    show 1 ≤ gtL x.number (h ++ [_]) ∨ _
    rw [e2]
    rcases H.gone h0 with a | ⟨a, _⟩
    · exact .inl a
    · rw [ht] at a; cases a
  · intro y hy hk2 hm2
    rcases List.mem_append.1 hy with hy | hy
    · exact H.dur y hy hk2 hm2
    · simp at hy; subst hy; rfl

theorem ItemI.get (H : ItemI h i x) (hn : ∀ y, 0 ≤ heldC h y) {who : Int} (hg : x.gone = false) (h1 : 1 ≤ who) (h8 : who ≤ 8) : ItemI (h ++ [about 4 who x.queue x x.count]) i { x with holder := who } := by
  have hc : crashE (about 4 who x.queue x x.count) = false := by simp [crashE, about]
  have ht : takE qn x.number (about 4 who x.queue x x.count) = false := by simp [takE, about]
  have e1 := tkL_snoc qn x.number hc h
  have e2 := gtL_snoc x.number (about 4 who x.queue x x.count) h
  have hgo : gotE x.number (about 4 who x.queue x x.count) = true := by simp [gotE, about]
  rw [ht] at e1
  rw [hgo] at e2
  simp only [Bool.false_eq_true, if_false, if_true, Int.add_zero] at e1 e2
  have g0 := (gtL_nonneg x.number h).1
  refine ⟨H.number, H.sender, ⟨by show 0 ≤ who; omega, h8⟩, H.queue, ?_, ?_, ?_, ?_, ?_, ?_, ?_⟩
  · show 0 ≤ x.count ∧ x.count ≤ backC (h ++ [_]) x.number
    rw [backC_snoc, if_neg (fun a => by simp [about] at a), Int.add_zero]; exact H.count
  · show sentL (h ++ [_]) x.number = [about 1 x.sender qQ x 0]
    rw [sentL_snoc, if_neg (fun a => by simp [about] at a), List.append_nil]; exact H.sent
  · intro h0
    show openC (h ++ [_]) (about 1 x.sender qQ x 0) = 1 ∧ tkL qn x.number (h ++ [_]) = 0
    rw [openC_snoc, e1]
    have := H.told0 h0
    simpa [about] using this
  · show tkL qn x.number (h ++ [_]) ≤ 1
    rw [e1]; exact H.told1
  · intro _
    show 1 ≤ heldC (h ++ [_]) (about 4 who x.queue x x.count) ∧ 1 ≤ gtL x.number (h ++ [_])
    rw [heldC_snoc, e2, alikeE_refl, if_pos rfl, if_pos (show (about 4 who x.queue x x.count).kind = 4 from rfl)]
    have := hn (about 4 who x.queue x x.count)
    omega
  · intro h0; rw [show ({ x with holder := who } : Item).gone = x.gone from rfl, hg] at h0; cases h0
  · intro y hy hk2 hm2
    rcases List.mem_append.1 hy with hy | hy
    · exact H.dur y hy hk2 hm2
    · simp at hy; subst hy; simp [about] at hk2

theorem ItemI.answer (H : ItemI h i x) (hh : x.holder ≠ 0) : ItemI (h ++ [about 5 x.holder x.queue x x.count]) i { x with holder := 0, gone := true } := by
  have hc : crashE (about 5 x.holder x.queue x x.count) = false := by simp [crashE, about]
  have ht : takE qn x.number (about 5 x.holder x.queue x x.count) = false := by simp [takE, about]
  have e1 := tkL_snoc qn x.number hc h
  have e2 := gtL_snoc x.number (about 5 x.holder x.queue x x.count) h
  have hgo : gotE x.number (about 5 x.holder x.queue x x.count) = false := by simp [gotE, about]
  rw [ht] at e1
  rw [hgo] at e2
  simp only [Bool.false_eq_true, if_false, Int.add_zero] at e1 e2
  refine ⟨H.number, H.sender, ⟨by simp, by simp⟩, H.queue, ?_, ?_, ?_, ?_, ?_, ?_, ?_⟩
  · show 0 ≤ x.count ∧ x.count ≤ backC (h ++ [_]) x.number
    rw [backC_snoc, if_neg (fun a => by simp [about] at a), Int.add_zero]; exact H.count
  · show sentL (h ++ [_]) x.number = [about 1 x.sender qQ x 0]
    rw [sentL_snoc, if_neg (fun a => by simp [about] at a), List.append_nil]; exact H.sent
  · intro h0
    show openC (h ++ [_]) (about 1 x.sender qQ x 0) = 1 ∧ tkL qn x.number (h ++ [_]) = 0
    rw [openC_snoc, e1]
    have := H.told0 h0
    simpa [about] using this
  · show tkL qn x.number (h ++ [_]) ≤ 1
    rw [e1]; exact H.told1
  · intro h0; simp at h0
  · intro _
    show 1 ≤ gtL x.number (h ++ [_]) ∨ _
    rw [e2]; exact .inl (H.held hh).2
  · intro y hy hk2 hm2
    rcases List.mem_append.1 hy with hy | hy
    · exact H.dur y hy hk2 hm2
    · simp at hy; subst hy; simp [about] at hk2

theorem ItemI.back (H : ItemI h i x) (f : Bool) (hg : x.gone = false) : ItemI (h ++ [about 6 x.holder x.queue x x.count]) i (bumped x f) := by
  have hc : crashE (about 6 x.holder x.queue x x.count) = false := by simp [crashE, about]
  have ht : takE qn x.number (about 6 x.holder x.queue x x.count) = false := by simp [takE, about]
  have e1 := tkL_snoc qn x.number hc h
  have e2 := gtL_snoc x.number (about 6 x.holder x.queue x x.count) h
  have hgo : gotE x.number (about 6 x.holder x.queue x x.count) = false := by simp [gotE, about]
  rw [ht] at e1
  rw [hgo] at e2
  simp only [Bool.false_eq_true, if_false, Int.add_zero] at e1 e2
  have b1 : (bumped x f).number = x.number := by unfold bumped; split <;> rfl
  have b2 : (bumped x f).sender = x.sender := by unfold bumped; split <;> rfl
  have b3 : (bumped x f).holder = 0 := by unfold bumped; split <;> rfl
  have b4 : (bumped x f).told = x.told := by unfold bumped; split <;> rfl
  have b5 : (bumped x f).gone = x.gone := by unfold bumped; split <;> rfl
  have b6 : (bumped x f).durable = x.durable := by unfold bumped; split <;> rfl
  have b7 : about 1 (bumped x f).sender qQ (bumped x f) 0 = about 1 x.sender qQ x 0 := by unfold about; rw [b1, b2, b6]
  refine ⟨b1.trans H.number, by rw [b2]; exact H.sender, by rw [b3]; omega, ?_, ?_, ?_, ?_, ?_, ?_, ?_, ?_⟩
  · unfold bumped
    split
    · show (if 2 ≤ x.count + 1 then qD else x.queue) = qQ ∨ (if 2 ≤ x.count + 1 then qD else x.queue) = qD
      split
      · exact .inr rfl
      · exact H.queue
    · exact H.queue
  · rw [b1, backC_snoc, if_pos ⟨rfl, rfl⟩]
    have := H.count
    unfold bumped
    split
    · show 0 ≤ x.count + 1 ∧ x.count + 1 ≤ _; omega
    · show 0 ≤ x.count ∧ x.count ≤ _; omega
  · rw [b1, b7, sentL_snoc, if_neg (fun a => by simp [about] at a), List.append_nil]; exact H.sent
  · intro h0
    rw [b4] at h0
    rw [b7, b1, openC_snoc, e1]
    have := H.told0 h0
    simpa [about] using this
  · rw [b1, e1]; exact H.told1
  · intro h0; rw [b3] at h0; exact absurd rfl h0
  · intro h0; rw [b5, hg] at h0; cases h0
  · intro y hy hk2 hm2
    rw [b6]; rw [b1] at hm2
    rcases List.mem_append.1 hy with hy | hy
    · exact H.dur y hy hk2 hm2
    · simp at hy; subst hy; simp [about] at hk2

theorem ItemI.send {all : List Item} (hn : ∀ y ∈ h, y.kind = 7 ∨ y.msg ≠ (all.length : Int) + 1) {who : Int} {d : Bool} (h1 : 1 ≤ who) (h8 : who ≤ 8) : ItemI (h ++ [about 1 who qQ (newItem all.length who d) 0]) all.length (newItem all.length who d) := by
  have hc : crashE (about 1 who qQ (newItem all.length who d) 0) = false := by simp [crashE, about]
  have ht : takE qn ((all.length : Int) + 1) (about 1 who qQ (newItem all.length who d) 0) = false := by simp [takE, about]
  have e1 := tkL_snoc qn ((all.length : Int) + 1) hc h
  rw [ht, tkL_none hn] at e1
  simp only [Bool.false_eq_true, if_false, Int.add_zero] at e1
  refine ⟨rfl, ⟨h1, h8⟩, ⟨by simp [newItem], by simp [newItem]⟩, .inl rfl, ?_, ?_, ?_, ?_, ?_, ?_, ?_⟩
  · show (0 : Int) ≤ 0 ∧ 0 ≤ backC _ _
    have := backC_le (h ++ [about 1 who qQ (newItem all.length who d) 0]) (newItem all.length who d).number
    omega
  · show sentL (h ++ [_]) ((all.length : Int) + 1) = _
    rw [sentL_snoc, sentL_none hn, if_pos ⟨rfl, rfl⟩]; rfl
  · intro _
    show openC (h ++ [_]) (about 1 who qQ (newItem all.length who d) 0) = 1 ∧ tkL qn ((all.length : Int) + 1) (h ++ [_]) = 0
    rw [openC_snoc, openC_none hn, e1, alikeE_refl]
    simp [about]
  · show tkL qn ((all.length : Int) + 1) (h ++ [_]) ≤ 1
    rw [e1]; omega
  · intro h0; simp [newItem] at h0
  · intro h0; simp [newItem] at h0
  · intro y hy hk2 hm2
    have hm3 : y.msg = (all.length : Int) + 1 := hm2
    rcases List.mem_append.1 hy with hy | hy
    · rcases hn y hy with a | a
      · omega
      · exact absurd hm3 a
    · simp at hy; subst hy; simp [about] at hk2
end

/-! ### The world, behind one move more. -/
theorem okE_bounds {e : Ent} (h : okE e = true) : 0 ≤ e.who ∧ e.who ≤ 8 ∧ 0 ≤ e.msg ∧ (e.kind = 7 → e.msg = 0) := by
  unfold okE at h
  split at h
  · simp at h
    obtain ⟨⟨⟨⟨a, _⟩, b⟩, _⟩, _⟩ := h
    omega
  · split at h
    · simp at h; omega
    · split at h
      · simp at h; omega
      · cases h
theorem about_ok {k who : Int} {q : ByteArray} {x : Item} {c : Int} (hk : 1 ≤ k ∧ k ≤ 6) (h1 : 1 ≤ who ∧ who ≤ 8) (hm : 0 ≤ x.number) (hc : 0 ≤ c) (hc0 : k ≤ 3 → c = 0) : okE (about k who q x c) = true := by
  unfold okE about
  simp only
  rw [if_neg (by omega)]
  by_cases h3 : k ≤ 3
  · rw [if_pos (by omega), hc0 h3]
    simp; omega
  · rw [if_neg (by omega), if_pos (by omega)]
    simp; omega

theorem qQ_size : qQ.size ≤ 100 := of_decide_eq_true (by kernel_rfl)
theorem qD_size : qD.size ≤ 100 := of_decide_eq_true (by kernel_rfl)
theorem deads_q : deads worldQ (qQ.toList.drop 6) = [qD.toList.drop 6] := by kernel_rfl
theorem deads_d : deads worldQ (qD.toList.drop 6) = [] := by kernel_rfl
theorem begins_q : beginsB qQ.toList queueB = true := by kernel_rfl
theorem begins_d : beginsB qD.toList queueB = true := by kernel_rfl
theorem begins_o : beginsB qO.toList queueB = true := by kernel_rfl
theorem topic_q : beginsB qQ.toList topicB = false := by kernel_rfl
theorem q_ne_o : (qQ.toList == qO.toList) = false := by kernel_rfl
theorem d_ne_o : (qO.toList.drop 6 == qD.toList.drop 6) = false := by kernel_rfl
open Classical in
theorem leads_qd : leadsB worldQ qQ.toList qD.toList = true := by
  unfold leadsB
  exact decide_eq_true (.inr (.inr ⟨begins_q, begins_d, .one (by rw [deads_q]; simp)⟩))
theorem leads_qo : leadsB worldQ qQ.toList qO.toList = false := by
  refine leads_way q_ne_o topic_q begins_q begins_o (r := false) ⟨(fun h => by cases h), fun hr => ?_⟩
  have hm := reach_closed (out := [qD.toList.drop 6]) (by rw [deads_q]; exact fun d hd => hd) (fun x hx d hd => by
    simp only [List.mem_singleton] at hx
    subst hx
    rw [deads_d] at hd; cases hd) hr
  simp only [List.mem_singleton] at hm
  have := d_ne_o
  rw [hm] at this
  simp at this
theorem leads_item {q : ByteArray} (h : q = qQ ∨ q = qD) : leadsB worldQ qQ.toList q.toList = true := by
  rcases h with rfl | rfl
  · exact leads_same (by simp)
  · exact leads_qd

/-- The counts are never below nothing. -/
def NonNeg (h : List Ent) : Prop := ∀ y, 0 ≤ openC h y ∧ 0 ≤ heldC h y
theorem NonNeg.start : NonNeg [] := fun y => by simp [openC, heldC, countL]

section
variable {all all' : List Item} {h h' : List Ent} {e : Ent}

theorem Inv.here (H : Inv all h) : ∀ e ∈ h, e.kind = 7 ∨ e.msg ≠ (all.length : Int) + 1 := fun e he => by
  rcases (H.ents e he).2.1 with a | a
  · exact .inl a
  · exact .inr (by omega)

/-- Behind one entry more about item i. -/
theorem Inv.snoc (H : Inv all h) {i : Nat} {x x' : Item} (hx : all[i]? = some x) (hI : ItemI (h ++ [e]) i x') (hm : e.msg = x.number) (hk : e.kind ≠ 7) (hok : okE e = true) (hc : 0 ≤ e.count ∧ e.count ≤ h.length) (hq : e.queue.size ≤ 100) (hw : wrongL worldQ h e = 0) : Inv (all.set i x') (h ++ [e]) := by
  have hil := (List.getElem?_eq_some_iff.1 hx).1
  have hnum := (H.items i x hx).number
  refine ⟨fun j y hy => ?_, fun y hy => ?_, fineTo_snoc H.fine hw⟩
  · by_cases hj : i = j
    · subst hj
      rw [List.getElem?_set_self hil] at hy
      cases hy
      exact hI
    · rw [List.getElem?_set_ne hj] at hy
      have hyI := H.items j y hy
      refine hyI.other ?_ hk
      rw [hm, hnum, hyI.number]
      omega
  · rw [List.length_set]
    rcases List.mem_append.1 hy with hy | hy
    · obtain ⟨a, b, c, d, f⟩ := H.ents y hy
      exact ⟨a, b, c, by simp; omega, f⟩
    · simp at hy; subst hy
      exact ⟨hok, .inr (by rw [hm, hnum]; omega), hc.1, by simp; omega, hq⟩

theorem queue_size {q : ByteArray} (h : q = qQ ∨ q = qD) : q.size ≤ 100 := by
  rcases h with rfl | rfl
  · exact qQ_size
  · exact qD_size

theorem Inv.move (H : Inv all h) (hn : NonNeg h) (hp : ∀ y ∈ h, EntOk y) (M : Move all h all' h') : Inv all' h' ∧ NonNeg h' ∧ h'.length ≤ h.length + 1 ∧ all'.length ≤ all.length + 1 := by
  cases M with
  | nop => exact ⟨H, hn, by omega, by omega⟩
  | send who d h1 h8 =>
    have hh := H.here
    have hok : okE (about 1 who qQ (newItem all.length who d) 0) = true := about_ok (by omega) ⟨h1, h8⟩ (by simp [newItem]; omega) (by omega) fun _ => rfl
    refine ⟨⟨fun j y hy => ?_, fun y hy => ?_, fineTo_snoc H.fine (wrongL_sent (.inl rfl))⟩, fine_snoc hn (fun a => by simp [about] at a) (fun a => by simp [about] at a), by simp, by simp⟩
    · rcases Nat.lt_or_ge j all.length with hj | hj
      · rw [List.getElem?_append_left hj] at hy
        have hyI := H.items j y hy
        refine hyI.other ?_ (by simp [about])
        show (all.length : Int) + 1 ≠ y.number
        rw [hyI.number]; omega
      · rw [List.getElem?_append_right hj] at hy
        have : j - all.length = 0 := by
          have := (List.getElem?_eq_some_iff.1 hy).1
          simp at this; omega
        obtain rfl : j = all.length := by omega
        simp at hy
        subst hy
        exact ItemI.send hh h1 h8
    · rw [List.length_append, List.length_singleton]
      rcases List.mem_append.1 hy with hy | hy
      · obtain ⟨a, b, c, d', f⟩ := H.ents y hy
        refine ⟨a, ?_, c, by simp; omega, f⟩
        rcases b with b | b
        · exact .inl b
        · exact .inr (by omega)
      · simp at hy; subst hy
        exact ⟨hok, .inr (by simp [about, newItem]; omega), by simp [about], by simp [about]; omega, qQ_size⟩
  | tell i x hx ht =>
    have hI := H.items i x hx
    have hnum := hI.number
    have hok : okE (about 2 x.sender qQ x 0) = true := about_ok (by omega) hI.sender (by omega) (by omega) fun _ => rfl
    have ho : openC h (about 2 x.sender qQ x 0) = 1 := (hI.told0 ht).1
    have hw : wrongL worldQ h (about 2 x.sender qQ x 0) = 0 := by
      unfold wrongL
      rw [if_pos (.inl rfl), countL_false hp rfl (by omega) (by omega), countL_false hp rfl (by omega) (by omega)]
      unfold openC at ho
      rw [if_neg (by omega)]
    exact ⟨H.snoc hx (hI.tell ht) rfl (by simp [about]) hok ⟨by simp [about], by simp [about]⟩ qQ_size hw, fine_snoc hn (fun _ => by rw [ho]; omega) (fun a => by simp [about] at a), by simp, by simp⟩
  | get i x who hx hg hh h1 h8 =>
    have hI := H.items i x hx
    have hnum := hI.number
    have hcn := hI.count
    have hbk := backC_le h x.number
    have hok : okE (about 4 who x.queue x x.count) = true := about_ok (by omega) ⟨h1, h8⟩ (by omega) hcn.1 fun a => by omega
    have hw : wrongL worldQ h (about 4 who x.queue x x.count) = 0 := by
      rw [wrongL_got rfl]
      show gotA worldQ (sentL h x.number) (backC h x.number) (about 4 who x.queue x x.count) = 0
      rw [hI.sent]
      refine gotA_0 (x := beginsB x.queue.toList queueB) (y := true) (by simp) rfl ?_ (by simp) ?_ ?_
      · simp only [List.any_cons, List.any_nil, Bool.or_false]
        exact leads_item hI.queue
      · simp [about]
      · show ¬ backC h x.number < x.count; omega
    exact ⟨H.snoc hx (hI.get (fun y => (hn y).2) hg h1 h8) rfl (by simp [about]) hok ⟨hcn.1, by show x.count ≤ _; omega⟩ (queue_size hI.queue) hw, fine_snoc hn (fun a => by simp [about] at a) (fun a => by simp [about] at a), by simp, by simp⟩
  | answer i x hx hg hh =>
    have hI := H.items i x hx
    have hnum := hI.number
    have hcn := hI.count
    have hho := hI.holder
    have hbk := backC_le h x.number
    have hok : okE (about 5 x.holder x.queue x x.count) = true := about_ok (by omega) (by omega) (by omega) hcn.1 fun a => by omega
    have hl : 1 ≤ heldC h (about 5 x.holder x.queue x x.count) := (hI.held hh).1
    have hw : wrongL worldQ h (about 5 x.holder x.queue x x.count) = 0 := by
      rw [wrongL_done (.inl rfl), if_pos (by omega)]
    exact ⟨H.snoc hx (hI.answer hh) rfl (by simp [about]) hok ⟨hcn.1, by show x.count ≤ _; omega⟩ (queue_size hI.queue) hw, fine_snoc hn (fun a => by simp [about] at a) (fun _ => by omega), by simp, by simp⟩
  | back i x f hx hg hh =>
    have hI := H.items i x hx
    have hnum := hI.number
    have hcn := hI.count
    have hho := hI.holder
    have hbk := backC_le h x.number
    have hok : okE (about 6 x.holder x.queue x x.count) = true := about_ok (by omega) (by omega) (by omega) hcn.1 fun a => by omega
    have hl : 1 ≤ heldC h (about 6 x.holder x.queue x x.count) := (hI.held hh).1
    have hw : wrongL worldQ h (about 6 x.holder x.queue x x.count) = 0 := by
      rw [wrongL_done (.inr rfl), if_pos (by omega)]
    exact ⟨H.snoc hx (hI.back f hg) rfl (by simp [about]) hok ⟨hcn.1, by show x.count ≤ _; omega⟩ (queue_size hI.queue) hw, fine_snoc hn (fun a => by simp [about] at a) (fun _ => by omega), by simp, by simp⟩
  | crash =>
    refine ⟨⟨fun j y hy => ?_, fun y hy => ?_, fineTo_snoc H.fine (wrongL_sent (.inr rfl))⟩, fine_snoc hn (fun a => by simp [crashEnt] at a) (fun a => by simp [crashEnt] at a), by simp, by simp⟩
    · rw [List.getElem?_map] at hy
      cases hx : all[j]? with
      | none => rw [hx] at hy; cases hy
      | some x =>
        rw [hx] at hy
        simp at hy
        subst hy
        exact (H.items j x hx).crash
    · rw [List.length_map]
      rcases List.mem_append.1 hy with hy | hy
      · obtain ⟨a, b, c, d', f⟩ := H.ents y hy
        exact ⟨a, b, c, by simp; omega, f⟩
      · simp at hy; subst hy
        exact ⟨by kernel_rfl, .inl rfl, by simp [crashEnt], by simp [crashEnt]; omega, of_decide_eq_true (by kernel_rfl)⟩

/-- The entries may be met by a judge. -/
theorem Inv.entOk (H : Inv all h) (ha : all.length ≤ 1000) (hl : h.length ≤ 1000) : ∀ e ∈ h, EntOk e := fun e he => by
  obtain ⟨a, b, c, d, f⟩ := H.ents e he
  obtain ⟨w1, w2, w3, w4⟩ := okE_bounds a
  have hm : e.msg ≤ 1000 := by
    rcases b with b | b
    · rw [w4 b]; omega
    · omega
  exact ⟨a, WalkArith.wf_i64 (by omega), WalkArith.wf_i64 (by omega), WalkArith.wf_i64 (by omega), by unfold maxLen; omega⟩
theorem Inv.hist (H : Inv all h) (hl : h.length ≤ 400) : histE h = 0 := histE_good (by omega) (List.all_eq_true.2 fun e he => (H.ents e he).1)
theorem Inv.judge (H : Inv all h) : judgeL worldQ h = (-1, 0) := judgeL_none H.fine

/-- What must lie in q lies there free, and its sender was told. -/
theorem Inv.must (H : Inv all h) {my : List Int} (hM : MayL h qn my) : ∀ m ∈ mustOf h qn my, ∃ (i : Nat) (x : Item), all[i]? = some x ∧ m = (i : Int) + 1 ∧ x.number = m ∧ x.gone = false ∧ x.told = true ∧ x.holder = 0 := fun m hm => by
  unfold mustOf at hm
  rw [List.mem_filter] at hm
  obtain ⟨hmy, hmo⟩ := hm
  have hs := (hM.2 m).1 hmy
  obtain ⟨e, he, hse⟩ := List.any_eq_true.1 hs
  simp only [isSent, Bool.and_eq_true, decide_eq_true_eq] at hse
  have hb := (H.ents e he).2.1
  obtain ⟨i, hi⟩ : ∃ i : Nat, m = (i : Int) + 1 := ⟨(m - 1).toNat, by omega⟩
  have hil : i < all.length := by omega
  obtain ⟨x, hx⟩ : ∃ x, all[i]? = some x := ⟨_, List.getElem?_eq_getElem hil⟩
  have hI := H.items i x hx
  have hn : x.number = m := by rw [hI.number, hi]
  have h1 := moreL_eq qn m h
  have h2 := (gtL_nonneg m h).1
  have h3 := hI.told1
  simp only [decide_eq_true_eq] at hmo
  rw [hn] at h3
  have htk : tkL qn m h = 1 := by omega
  have hgt : gtL m h = 0 := by omega
  refine ⟨i, x, hx, hi, hn, ?_, ?_, ?_⟩
  · cases hg : x.gone with
    | false => rfl
    | true =>
      have := hI.gone hg
      rw [hn] at this
      omega
  · cases ht : x.told with
    | true => rfl
    | false =>
      have := (hI.told0 ht).2
      rw [hn] at this
      omega
  · false_or_by_contra
    rename_i hh
    have := (hI.held hh).2
    rw [hn] at this
    omega

/-- Just the messages that were sent may lie in q. -/
theorem Inv.may (H : Inv all h) {my : List Int} (hM : MayL h qn my) : my.length = all.length := by
  have h1 : my = (List.range all.length).map (fun i : Nat => (i : Int) + 1) := by
    refine asc_unique hM.1 ?_ fun m => (hM.2 m).trans ?_
    · unfold Asc
      rw [List.pairwise_map]
      exact List.pairwise_lt_range.imp fun {a b} hab => by omega
    · constructor
      · intro hs
        obtain ⟨e, he, hse⟩ := List.any_eq_true.1 hs
        simp only [isSent, Bool.and_eq_true, decide_eq_true_eq] at hse
        have hb := (H.ents e he).2.1
        exact List.mem_map.2 ⟨(m - 1).toNat, List.mem_range.2 (by omega), by omega⟩
      · intro hm
        obtain ⟨i, hi, rfl⟩ := List.mem_map.1 hm
        rw [List.mem_range] at hi
        obtain ⟨x, hx⟩ : ∃ x, all[i]? = some x := ⟨_, List.getElem?_eq_getElem hi⟩
        have hI := H.items i x hx
        have hs : about 1 x.sender qQ x 0 ∈ sentL h x.number := by rw [hI.sent]; simp
        unfold sentL at hs
        rw [List.mem_filter] at hs
        refine List.any_eq_true.2 ⟨_, hs.1, ?_⟩
        simp only [isSent, about, hI.number, decide_true, Bool.and_true, Bool.true_and]
        simp [qn]
  rw [h1]; simp

/-- An entry more that can't be is found at its place. -/
theorem Inv.odd (H : Inv all h) (hl : h.length ≤ 399) {e : Ent} {n : Nat} (hok : okE e = true) (hw : wrongL worldQ h e = n) (hn : n ≠ 0) : histE (h ++ [e]) = 0 ∧ judgeL worldQ (h ++ [e]) = ((h.length : Int), n) := by
  refine ⟨histE_good (by simp; omega) (List.all_eq_true.2 fun x hx => ?_), ?_⟩
  · rcases List.mem_append.1 hx with hx | hx
    · exact (H.ents x hx).1
    · simp at hx; subst hx; exact hok
  · have h1 : (h ++ [e]).take h.length = h := by simp
    have h2 := judgeL_some (qs := worldQ) (es := h ++ [e]) (i := h.length) (e := e) (by simp) (by rw [h1, hw]; exact hn) (fun j x hj hx => by
      rw [List.getElem?_append_left hj] at hx
      rw [List.take_append_of_le_length (by omega)]
      exact H.fine j x hj hx)
    rw [h1, hw] at h2
    exact h2

def odd1 (n : Nat) : Ent := ⟨2, 1, qQ, n + 1, 0, false⟩
def odd2 (n : Nat) : Ent := ⟨4, 1, qQ, n + 1, 0, false⟩
def odd3 (n : Nat) : Ent := ⟨5, 1, qQ, n + 1, 0, false⟩
def odd4 (d : Bool) : Ent := ⟨4, 1, qO, 1, 0, d⟩
def odd5 (d : Bool) : Ent := ⟨4, 1, qQ, 1, 0, !d⟩
def odd6 (d : Bool) : Ent := ⟨4, 1, qQ, 1, 1000, d⟩

theorem Inv.odd1 (H : Inv all h) (hp : ∀ y ∈ h, EntOk y) : okE (odd1 all.length) = true ∧ wrongL worldQ h (odd1 all.length) = 1 := by
  have hok : okE (Au.odd1 all.length) = true := about_ok (x := newItem all.length 1 false) (k := 2) (by omega) (by omega) (by simp [newItem]; omega) (by omega) fun _ => rfl
  refine ⟨hok, ?_⟩
  have h0 : openC h (Au.odd1 all.length) = 0 := openC_none H.here
  unfold wrongL
  rw [if_pos (.inl rfl), countL_false hp rfl (by omega) (by omega), countL_false hp rfl (by omega) (by omega)]
  unfold openC at h0
  rw [if_pos (by omega)]
theorem Inv.odd2 (H : Inv all h) : okE (odd2 all.length) = true ∧ wrongL worldQ h (odd2 all.length) = 2 := by
  refine ⟨about_ok (x := newItem all.length 1 false) (k := 4) (by omega) (by omega) (by simp [newItem]; omega) (by omega) fun _ => rfl, ?_⟩
  rw [wrongL_got rfl, show sentL h (Au.odd2 all.length).msg = [] from sentL_none H.here, gotA_2]
theorem Inv.odd3 (H : Inv all h) : okE (odd3 all.length) = true ∧ wrongL worldQ h (odd3 all.length) = 6 := by
  refine ⟨about_ok (x := newItem all.length 1 false) (k := 5) (by omega) (by omega) (by simp [newItem]; omega) (by omega) fun _ => rfl, ?_⟩
  rw [wrongL_done (.inl rfl), show heldC h (Au.odd3 all.length) = 0 from heldC_none H.here]; rfl

theorem Inv.odds (H : Inv all h) {x : Item} (hx : all[0]? = some x) (hl : h.length ≤ 400) : (okE (odd4 x.durable) = true ∧ wrongL worldQ h (odd4 x.durable) = 3) ∧ (okE (odd5 x.durable) = true ∧ wrongL worldQ h (odd5 x.durable) = 4) ∧ okE (odd6 x.durable) = true ∧ wrongL worldQ h (odd6 x.durable) = 5 := by
  have hI := H.items 0 x hx
  have hn : x.number = 1 := by rw [hI.number]; rfl
  have hs := hI.sent
  rw [hn] at hs
  have hb := backC_le h 1
  refine ⟨⟨about_ok (x := { x with number := 1 }) (k := 4) (by omega) (by omega) (by simp) (by omega) fun _ => rfl, ?_⟩, ⟨about_ok (x := { x with number := 1, durable := !x.durable }) (k := 4) (by omega) (by omega) (by simp) (by omega) fun _ => rfl, ?_⟩, about_ok (x := { x with number := 1 }) (k := 4) (by omega) (by omega) (by simp) (by omega) fun a => by omega, ?_⟩
  · rw [wrongL_got rfl]
    show gotA worldQ (sentL h 1) (backC h 1) (odd4 x.durable) = 3
    rw [hs]
    refine gotA_3 (by simp) begins_o ?_
    simp only [List.any_cons, List.any_nil, Bool.or_false]
    exact leads_qo
  · rw [wrongL_got rfl]
    show gotA worldQ (sentL h 1) (backC h 1) (odd5 x.durable) = 4
    rw [hs]
    refine gotA_4 (x := true) (y := true) (by simp) begins_q ?_ rfl ?_
    · simp only [List.any_cons, List.any_nil, Bool.or_false]
      exact leads_item (.inl rfl)
    · simp [about, odd5]
  · rw [wrongL_got rfl]
    show gotA worldQ (sentL h 1) (backC h 1) (odd6 x.durable) = 5
    rw [hs]
    refine gotA_5 (x := true) (y := true) (by simp) begins_q ?_ rfl ?_ ?_
    · simp only [List.any_cons, List.any_nil, Bool.or_false]
      exact leads_item (.inl rfl)
    · simp [about, odd6]
    · show backC h 1 < 1000; omega
end

end Go.Proofs.Ytgincippgaecfaa.Au

namespace Go.Proofs.Ytgincippgaecfaa.Au
open Go Go.RowKit

def CountOk (all : List Item) (h : List Ent) : Prop := ∀ x ∈ all, 0 ≤ x.count ∧ x.count ≤ h.length

theorem CountOk.start : CountOk [] [] := fun _ hx => nomatch hx

theorem CountOk.move {all h all' h'} (C : CountOk all h) (M : Move all h all' h') : CountOk all' h' := by
  have hset : ∀ (i : Nat) (x x' : Item) (e : Ent), all[i]? = some x → (0 ≤ x.count ∧ x.count ≤ h.length → 0 ≤ x'.count ∧ x'.count ≤ h.length + 1) → CountOk (all.set i x') (h ++ [e]) := by
    intro i x x' e hx hc y hy
    have hxm := C x (List.mem_of_getElem? hx)
    rcases List.mem_or_eq_of_mem_set hy with hy | rfl
    · have := C y hy
      simp only [List.length_append, List.length_singleton]
      omega
    · have := hc hxm
      simp only [List.length_append, List.length_singleton]
      omega
  cases M with
  | nop => exact C
  | crash =>
    intro y hy
    obtain ⟨x, hx, rfl⟩ := List.mem_map.1 hy
    have := C x hx
    have hc : (crashed x).count = x.count := rfl
    rw [hc]
    simp only [List.length_append, List.length_singleton]
    omega
  | back i x f hx hg hh =>
    refine hset i x _ _ hx fun hc => ?_
    unfold bumped
    split <;> simp only <;> omega
  | _ => first
    | (rename_i hx _; exact hset _ _ _ _ hx fun hc => by simp only; omega)
    | (rename_i hx _ _; exact hset _ _ _ _ hx fun hc => by simp only; omega)
    | (rename_i hx _ _ _ _; exact hset _ _ _ _ hx fun hc => by simp only; omega)
    | (intro y hy; rcases List.mem_append.1 hy with hy | hy
       · have := C y hy; simp only [List.length_append, List.length_singleton]; omega
       · obtain rfl := List.mem_singleton.1 hy; simp [newItem]; omega)

end Go.Proofs.Ytgincippgaecfaa.Au

namespace Go.Proofs.Ytgincippgaecfaa.Au
open Go Go.RowKit

def Item.cells (x : Item) : List Value := [.int .i64 x.number, .bool x.durable, .int .i64 x.count, .int .i64 x.holder, .string x.queue, .int .i64 x.sender, .bool x.told, .bool x.gone]
def cellsI (l : List Item) : List Value := l.flatMap Item.cells

theorem cellsI_length (l : List Item) : (cellsI l).length = l.length * 8 := by
  induction l with
  | nil => rfl
  | cons e l ih => simp only [cellsI, List.flatMap_cons, List.length_append, List.length_cons] at ih ⊢; rw [ih]; simp [Item.cells]; omega
theorem cellsI_append (a b : List Item) : cellsI (a ++ b) = cellsI a ++ cellsI b := by simp [cellsI]
theorem cellsI_one (l : List Item) : ∀ u ∈ cellsI l, u.oneCell' = true := by
  intro u hu
  obtain ⟨e, _, he⟩ := List.mem_flatMap.1 hu
  simp [Item.cells] at he
  rcases he with rfl | rfl | rfl | rfl | rfl | rfl | rfl | rfl <;> rfl
/-- Cell k of item i. -/
theorem cellsI_at {l : List Item} : ∀ {i : Nat} {x : Item}, l[i]? = some x → ∀ {k : Nat}, k < 8 → (cellsI l)[i * 8 + k]? = x.cells[k]? := by
  induction l with
  | nil => intro i x hx; simp at hx
  | cons y l ih =>
    intro i x hx k hk
    simp only [cellsI, List.flatMap_cons]
    match i, hx with
    | 0, hx =>
      simp at hx; subst hx
      rw [Nat.zero_mul, Nat.zero_add, List.getElem?_append_left (by simpa [Item.cells] using hk)]
    | i + 1, hx =>
      rw [List.getElem?_append_right (by simp [Item.cells]; omega)]
      have := ih (i := i) (x := x) (by simpa using hx) hk
      rw [← this]
      simp only [cellsI]
      congr 1
      simp [Item.cells]; omega
/-- Item i with one cell turned. -/
theorem cellsI_set {l : List Item} : ∀ {i : Nat} {x x' : Item} {k : Nat} {u : Value}, l[i]? = some x → k < 8 → x'.cells = x.cells.set k u → (cellsI l).set (i * 8 + k) u = cellsI (l.set i x') := by
  induction l with
  | nil => intro i x x' k u hx; simp at hx
  | cons y l ih =>
    intro i x x' k u hx hk hc
    match i, hx with
    | 0, hx =>
      simp at hx; subst hx
      simp only [cellsI, List.flatMap_cons, List.set_cons_zero, Nat.zero_mul, Nat.zero_add]
      rw [List.set_append_left _ _ (by simpa [Item.cells] using hk), hc]
    | i + 1, hx =>
      have := ih (i := i) (x := x) (x' := x') (k := k) (u := u) (by simpa using hx) hk hc
      simp only [cellsI, List.flatMap_cons, List.set_cons_succ] at this ⊢
      rw [← this, List.set_append_right _ _ (by simp [Item.cells]; omega)]
      congr 2
      simp [Item.cells]; omega

/-- THE WORLD lies in block wb; its two rows lie behind it, apart. -/
structure WS (B : Nat) (w0 : World) (wb : Nat) (nx : Int) (all : List Item) (h : List Ent) (va vh : Value) (W : World) : Prop where
  below : Below B w0 W
  from_ : B ≤ w0.heap.size
  lo : B ≤ wb
  box : W.heap[wb]? = some (.cells #[va, vh, .int .i64 nx] 48 (0, 0))
  items : W.ownsRow (wb + 1) 53 8 va all.length (cellsI all)
  hist : W.ownsRow (wb + 1) 55 6 vh h.length (cellsOf h)
  apart : ∀ g, va.ownBlock = some g → vh.ownBlock ≠ some g

section
variable {B : Nat} {w0 W W' : World} {wb : Nat} {nx : Int} {all : List Item} {h : List Ent} {va vh : Value}

theorem WS.lt (H : WS B w0 wb nx all h va vh W) : wb < W.heap.size := (Array.getElem?_eq_some_iff.1 H.box).1
theorem WS.cells (H : WS B w0 wb nx all h va vh W) : W.cell? ⟨wb, 0, none⟩ = some va ∧ W.cell? ⟨wb, 1, none⟩ = some vh ∧ W.cell? ⟨wb, 2, none⟩ = some (.int .i64 nx) := by
  have := H.box
  simp [World.cell?, this]
theorem WS.frozen (H : WS B w0 wb nx all h va vh W) (j : Nat) : W.frozen? ⟨wb, j, none⟩ = false := by
  have := H.box
  simp [World.frozen?, this]
theorem WS.later (H : WS B w0 wb nx all h va vh W) (hw : Below W.heap.size W W') : WS B w0 wb nx all h va vh W' := by
  have h1 := H.lt
  have h2 := H.lo
  exact ⟨H.below.trans (hw.mono (by omega)), H.from_, H.lo, (hw.block _ h1).trans H.box, ownsRow_belowJ H.items hw fun g hg => (World.ownsRow.lt H.items g hg).2, ownsRow_belowJ H.hist hw fun g hg => (World.ownsRow.lt H.hist g hg).2, H.apart⟩

/-- One entry more. -/
theorem WS.push (H : WS B w0 wb nx all h va vh W) {W1 : World} {tmp : Obj} {e : Ent} {v' : Value} (hg : (W.alloc tmp).grownBy W1 vh.ownBlock) (hown : W1.ownsRow (wb + 1) 55 6 v' (h.length + 1) (cellsOf (h ++ [e]))) (hat : ∀ g, v'.ownBlock = some g → vh.ownBlock = some g ∨ W.heap.size ≤ g) :
    WS B w0 wb nx all (h ++ [e]) va v' (W1.setCell ⟨wb, 1, none⟩ v') := by
  have h1 := H.lt
  have h2 := H.lo
  have hA := H.later ((Below.refl _ W).alloc (Nat.le_refl _) tmp)
  have hv : ∀ r, vh.ownBlock = some r → wb + 1 ≤ r := fun r hr => (World.ownsRow.lt H.hist r hr).1
  have hs := hg.size
  simp only [World.size_alloc] at hs
  have hbox : W1.heap[wb]? = some (.cells #[va, vh, .int .i64 nx] 48 (0, 0)) := (hg.block _ (by simp; omega) (fun e2 => by have := hv wb e2.symm; omega)).trans hA.box
  have hgs := Go.Proofs.Ytgincippgaecfaa.Au.grown_setJ W1 wb 1 v'
  refine ⟨?_, H.from_, H.lo, ?_, ?_, ?_, ?_⟩
  · exact (hA.below.grown hg (by have := hA.below.size; have := H.from_; simp at *; omega) (fun r e2 => by have := hv r e2; omega)).setCell (by simpa using h2) v'
  · have := heap_setCell_same W1 wb 1 _ 48 v' hbox
    simpa using this
  · refine ownsRow_kept (ownsRow_kept hA.items hg fun r e2 hb => H.apart r hb e2) hgs fun r e2 hb => ?_
    have := Option.some.inj e2
    have := (World.ownsRow.lt H.items r hb).1
    omega
  · rw [List.length_append, List.length_singleton]
    refine ownsRow_kept hown hgs fun r e2 hb => ?_
    have := Option.some.inj e2
    have := (World.ownsRow.lt hown r hb).1
    omega
  · intro g hb hb'
    rcases hat g hb' with a | a
    · exact H.apart g hb a
    · have := (World.ownsRow.lt H.items g hb).2
      omega

/-- One cell of an item is turned. -/
theorem WS.turn (H : WS B w0 wb nx all h va vh W) {i k ga cap : Nat} {x x' : Item} {u : Value} (hva : va = .slice (some ⟨ga, 0, none⟩) all.length cap) (hx : all[i]? = some x) (hk : k < 8) (hc : x'.cells = x.cells.set k u) :
    WS B w0 wb nx (all.set i x') h va vh (W.setCell ⟨ga, i * 8 + k, none⟩ u) := by
  subst hva
  have h2 := H.lo
  obtain ⟨s1, s2⟩ := H.items.stored (i * 8 + k) u
  have hga := World.ownsRow.lt H.items ga rfl
  rw [cellsI_set hx hk hc] at s1
  refine ⟨H.below.setCell (by show B ≤ ga; omega) u, H.from_, H.lo, ?_, ?_, ?_, H.apart⟩
  · exact (s2.block _ H.lt (fun e => by have := Option.some.inj e; omega)).trans H.box
  · rw [List.length_set]; exact s1
  · exact ownsRow_kept H.hist s2 fun r e hb => H.apart ga rfl (by have := Option.some.inj e; rw [this]; exact hb)

/-- The next number. -/
theorem WS.next (H : WS B w0 wb nx all h va vh W) (m : Int) : WS B w0 wb m all h va vh (W.setCell ⟨wb, 2, none⟩ (.int .i64 m)) := by
  have h2 := H.lo
  have hgs := Go.Proofs.Ytgincippgaecfaa.Au.grown_setJ W wb 2 (.int .i64 m)
  refine ⟨H.below.setCell (by simpa using h2) _, H.from_, H.lo, ?_, ?_, ?_, H.apart⟩
  · have := heap_setCell_same W wb 2 _ 48 (.int .i64 m) H.box
    simpa using this
  · refine ownsRow_kept H.items hgs fun r e2 hb => ?_
    have := Option.some.inj e2
    have := (World.ownsRow.lt H.items r hb).1
    omega
  · refine ownsRow_kept H.hist hgs fun r e2 hb => ?_
    have := Option.some.inj e2
    have := (World.ownsRow.lt H.hist r hb).1
    omega

/-- One item more. -/
theorem WS.grow (H : WS B w0 wb nx all h va vh W) {W1 : World} {tmp : Obj} {x : Item} {v' : Value} (hg : (W.alloc tmp).grownBy W1 va.ownBlock) (hown : W1.ownsRow (wb + 1) 53 8 v' (all.length + 1) (cellsI (all ++ [x]))) (hat : ∀ g, v'.ownBlock = some g → va.ownBlock = some g ∨ W.heap.size ≤ g) :
    WS B w0 wb nx (all ++ [x]) h v' vh (W1.setCell ⟨wb, 0, none⟩ v') := by
  have h1 := H.lt
  have h2 := H.lo
  have hA := H.later ((Below.refl _ W).alloc (Nat.le_refl _) tmp)
  have hv : ∀ r, va.ownBlock = some r → wb + 1 ≤ r := fun r hr => (World.ownsRow.lt H.items r hr).1
  have hs := hg.size
  simp only [World.size_alloc] at hs
  have hbox : W1.heap[wb]? = some (.cells #[va, vh, .int .i64 nx] 48 (0, 0)) := (hg.block _ (by simp; omega) (fun e2 => by have := hv wb e2.symm; omega)).trans hA.box
  have hgs := Go.Proofs.Ytgincippgaecfaa.Au.grown_setJ W1 wb 0 v'
  refine ⟨?_, H.from_, H.lo, ?_, ?_, ?_, ?_⟩
  · exact (hA.below.grown hg (by have := hA.below.size; have := H.from_; simp at *; omega) (fun r e2 => by have := hv r e2; omega)).setCell (by simpa using h2) v'
  · have := heap_setCell_same W1 wb 0 _ 48 v' hbox
    simpa using this
  · rw [List.length_append, List.length_singleton]
    refine ownsRow_kept hown hgs fun r e2 hb => ?_
    have := Option.some.inj e2
    have := (World.ownsRow.lt hown r hb).1
    omega
  · refine ownsRow_kept (ownsRow_kept hA.hist hg fun r e2 hb => H.apart r e2 hb) hgs fun r e2 hb => ?_
    have := Option.some.inj e2
    have := (World.ownsRow.lt H.hist r hb).1
    omega
  · intro g hb hb'
    rcases hat g hb with a | a
    · exact H.apart g a hb'
    · have := (World.ownsRow.lt H.hist g hb').2
      omega

/-- An item's cells. -/
theorem WS.itemAt (H : WS B w0 wb nx all h va vh W) {i : Nat} {x : Item} (hx : all[i]? = some x) : ∃ ga cap, va = .slice (some ⟨ga, 0, none⟩) all.length cap ∧ wb < ga ∧ ga < W.heap.size ∧ all.length ≤ cap ∧ (∀ k u, x.cells[k]? = some u → W.cell? ⟨ga, i * 8 + k, none⟩ = some u) ∧ ∀ j, W.frozen? ⟨ga, j, none⟩ = false := by
  have hil := (List.getElem?_eq_some_iff.1 hx).1
  rcases H.items.2 with ⟨_, h0⟩ | ⟨g, cap, cur, e, hb, hh, h1, h2, h3, h4⟩
  · omega
  · have hit := H.items
    rw [e] at hit
    refine ⟨g, cap, e, by omega, (Array.getElem?_eq_some_iff.1 hh).1, h1, fun k u hu => ?_, fun j => hit.frozenAt j⟩
    have hk : k < 8 := by
      have := (List.getElem?_eq_some_iff.1 hu).1
      simpa [Item.cells] using this
    rw [hit.cellAt (i * 8 + k) (by omega), cellsI_at hx hk]
    exact hu
end

end Go.Proofs.Ytgincippgaecfaa.Au
