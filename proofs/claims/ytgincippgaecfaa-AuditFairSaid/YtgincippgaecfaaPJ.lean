/-
  The plain law of Judge (no program in sight): what leads where; what is wrong with an entry; the first that is.
-/
import Derived.Test.YtgincippgaecfaaPlain
namespace Go.Proofs.Ytgincippgaecfaa.Au

/-- A queue's configuration, as far as Judge looks. -/
structure Qc where
  name : ByteArray
  most : Int
  dead : ByteArray
  tries : Int
  durable : Bool

abbrev Nm := List UInt8

/-- Where the dead ones of a queue of that name go. -/
def deads (qs : List Qc) (n : Nm) : List Nm := (qs.filter fun c => (c.name.toList == n) && !(c.dead.toList == [])).map fun c => c.dead.toList

inductive Reach (qs : List Qc) : Nm → Nm → Prop
  | one {a b : Nm} : b ∈ deads qs a → Reach qs a b
  | step {a b c : Nm} : Reach qs a b → c ∈ deads qs b → Reach qs a c

/-- A list that holds what is next to the start, and what is next to each of its own, holds all that is reached. -/
theorem reach_closed {qs : List Qc} {a : Nm} {out : List Nm} (h0 : ∀ d ∈ deads qs a, d ∈ out) (h : ∀ x ∈ out, ∀ d ∈ deads qs x, d ∈ out) {g : Nm} (hr : Reach qs a g) : g ∈ out := by
  induction hr with
  | one hb => exact h0 _ hb
  | step _ hc ih => exact h _ ih _ hc

/-- The reference's onward: new names go to the end. -/
def pushNew (out : List Nm) (d : Nm) : List Nm := if d ∈ out then out else out ++ [d]
def onwardL (qs : List Qc) (n : Nm) (out : List Nm) : List Nm := (deads qs n).foldl pushNew out

theorem pushNew_mem {out : List Nm} {d x : Nm} : x ∈ pushNew out d ↔ x ∈ out ∨ x = d := by
  unfold pushNew
  split
  · constructor
    · exact .inl
    · rintro (h | rfl)
      · exact h
      · assumption
  · simp
theorem pushNew_nodup {out : List Nm} {d : Nm} (h : out.Nodup) : (pushNew out d).Nodup := by
  unfold pushNew
  split
  · exact h
  · rename_i hn
    exact List.nodup_append.2 ⟨h, by simp, fun a ha b hb => by simp at hb; subst hb; exact fun e => hn (e ▸ ha)⟩
theorem pushNew_pre {out : List Nm} {d : Nm} : out <+: pushNew out d := by
  unfold pushNew
  split
  · exact List.prefix_refl _
  · exact List.prefix_append _ _

theorem foldNew (ds : List Nm) : ∀ out : List Nm, (∀ x, x ∈ ds.foldl pushNew out ↔ x ∈ out ∨ x ∈ ds) ∧ (out.Nodup → (ds.foldl pushNew out).Nodup) ∧ out <+: ds.foldl pushNew out := by
  induction ds with
  | nil => intro out; simp
  | cons d ds ih =>
    intro out
    obtain ⟨a, b, c⟩ := ih (pushNew out d)
    refine ⟨fun x => ?_, fun h => b (pushNew_nodup h), pushNew_pre.trans c⟩
    rw [List.foldl_cons, a x, pushNew_mem, List.mem_cons]
    constructor
    · rintro ((h | h) | h)
      · exact .inl h
      · exact .inr (.inl h)
      · exact .inr (.inr h)
    · rintro (h | h | h)
      · exact .inl (.inl h)
      · exact .inl (.inr h)
      · exact .inr h

theorem deads_name {qs : List Qc} {n d : Nm} (h : d ∈ deads qs n) : d ∈ qs.map fun c => c.dead.toList := by
  unfold deads at h
  obtain ⟨c, hc, rfl⟩ := List.mem_map.1 h
  exact List.mem_map.2 ⟨c, (List.mem_filter.1 hc).1, rfl⟩

/-- No more different names than there are to choose from. -/
theorem nodup_length {l m : List Nm} (h : l.Nodup) (hm : ∀ x ∈ l, x ∈ m) : l.length ≤ m.length := by
  induction l generalizing m with
  | nil => simp
  | cons a l ih =>
    obtain ⟨h1, h2⟩ := List.nodup_cons.1 h
    have ha : a ∈ m := hm a (by simp)
    have := ih (m := m.erase a) h2 fun x hx => (List.mem_erase_of_ne (fun (e : x = a) => h1 (by rw [← e]; exact hx))).2 (hm x (by simp [hx]))
    rw [List.length_erase_of_mem ha] at this
    have := List.length_pos_of_mem ha
    simp
    omega

/-- Between two rounds of the reference's reached: the first k have been gone on from. -/
def RC (qs : List Qc) (a : Nm) (k : Nat) (out : List Nm) : Prop :=
  out.Nodup ∧ (∀ x ∈ out, Reach qs a x) ∧ (∀ d ∈ deads qs a, d ∈ out) ∧ ∀ j x, j < k → out[j]? = some x → ∀ d ∈ deads qs x, d ∈ out

theorem RC.start (qs : List Qc) (a : Nm) : RC qs a 0 (onwardL qs a []) := by
  obtain ⟨h1, h2, _⟩ := foldNew (deads qs a) []
  exact ⟨h2 List.nodup_nil, fun x hx => .one (by simpa using (h1 x).1 hx), fun d hd => (h1 d).2 (.inr hd), fun j _ hj => absurd hj (Nat.not_lt_zero _)⟩
theorem RC.step {qs : List Qc} {a : Nm} {k : Nat} {out : List Nm} (h : RC qs a k out) {x : Nm} (hx : out[k]? = some x) : RC qs a (k + 1) (onwardL qs x out) := by
  obtain ⟨h1, h2, h3, h4⟩ := h
  obtain ⟨f1, f2, f3⟩ := foldNew (deads qs x) out
  have hp : ∀ j y, (onwardL qs x out)[j]? = some y → j < out.length → out[j]? = some y := fun j y hy hj => by
    obtain ⟨t, ht⟩ := f3
    unfold onwardL at hy
    rw [← ht, List.getElem?_append_left hj] at hy
    exact hy
  refine ⟨f2 h1, fun y hy => ?_, fun d hd => (f1 d).2 (.inl (h3 d hd)), fun j y hj hy d hd => ?_⟩
  · rcases (f1 y).1 hy with h | h
    · exact h2 y h
    · exact .step (h2 x (List.mem_of_getElem? hx)) h
  · have hk : k < out.length := (List.getElem?_eq_some_iff.1 hx).1
    have hy' := hp j y hy (by omega)
    rcases Nat.lt_or_ge j k with hlt | hge
    · exact (f1 d).2 (.inl (h4 j y hlt hy' d hd))
    · obtain rfl : j = k := by omega
      rw [hx] at hy'; cases hy'
      exact (f1 d).2 (.inr hd)
theorem RC.length {qs : List Qc} {a : Nm} {k : Nat} {out : List Nm} (h : RC qs a k out) : out.length ≤ qs.length := by
  have := nodup_length (m := qs.map fun c => c.dead.toList) h.1 fun x hx => by
    cases h.2.1 x hx with
    | one h => exact deads_name h
    | step _ h => exact deads_name h
  simpa using this
theorem RC.end {qs : List Qc} {a : Nm} {out : List Nm} (h : RC qs a out.length out) (g : Nm) : g ∈ out ↔ Reach qs a g := by
  refine ⟨h.2.1 g, fun hr => reach_closed h.2.2.1 (fun x hx d hd => ?_) hr⟩
  obtain ⟨j, hj, rfl⟩ := List.getElem_of_mem hx
  exact h.2.2.2 j _ hj (List.getElem?_eq_getElem hj) d hd

/-- Between two rounds of the program's search: o: the start and those met, in order; the first k have been gone on from; the goal is not met. -/
def BS (qs : List Qc) (a g : Nm) (k : Nat) (met : List Nm) : Prop :=
  met.Nodup ∧ g ∉ met ∧ (∀ x ∈ met, Reach qs a x) ∧ ∀ j x, j < k → (a :: met)[j]? = some x → ∀ d ∈ deads qs x, d ∈ met

theorem BS.start (qs : List Qc) (a g : Nm) : BS qs a g 0 [] := ⟨List.nodup_nil, by simp, fun x hx => by simp at hx, fun j _ hj => absurd hj (Nat.not_lt_zero _)⟩
/-- Within a round: the first i deads of the k-th have been looked at. -/
def BT (qs : List Qc) (a g : Nm) (k i : Nat) (x : Nm) (met : List Nm) : Prop :=
  BS qs a g k met ∧ (a :: met)[k]? = some x ∧ ∀ d ∈ (deads qs x).take i, d ∈ met
theorem BS.open {qs : List Qc} {a g : Nm} {k : Nat} {met : List Nm} (h : BS qs a g k met) {x : Nm} (hx : (a :: met)[k]? = some x) : BT qs a g k 0 x met := ⟨h, hx, by simp⟩
theorem reach_at {qs : List Qc} {a g : Nm} {k : Nat} {met : List Nm} (h : BS qs a g k met) {x d : Nm} (hx : (a :: met)[k]? = some x) (hd : d ∈ deads qs x) : Reach qs a d := by
  cases k with
  | zero => simp at hx; subst hx; exact .one hd
  | succ k => simp at hx; exact .step (h.2.2.1 x (List.mem_of_getElem? hx)) hd
theorem BT.hit {qs : List Qc} {a g : Nm} {k i : Nat} {x : Nm} {met : List Nm} (h : BT qs a g k i x met) (hd : (deads qs x)[i]? = some g) : Reach qs a g := reach_at h.1 h.2.1 (List.mem_of_getElem? hd)
theorem BT.old {qs : List Qc} {a g : Nm} {k i : Nat} {x d : Nm} {met : List Nm} (h : BT qs a g k i x met) (hd : (deads qs x)[i]? = some d) (hm : d ∈ met) : BT qs a g k (i + 1) x met := by
  refine ⟨h.1, h.2.1, fun y hy => ?_⟩
  rw [List.take_add_one, hd] at hy
  rcases List.mem_append.1 hy with hy | hy
  · exact h.2.2 y hy
  · simp at hy; subst hy; exact hm
theorem BT.new {qs : List Qc} {a g : Nm} {k i : Nat} {x d : Nm} {met : List Nm} (h : BT qs a g k i x met) (hd : (deads qs x)[i]? = some d) (hm : d ∉ met) (hg : d ≠ g) : BT qs a g k (i + 1) x (met ++ [d]) := by
  obtain ⟨⟨h1, h2, h3, h4⟩, h5, h6⟩ := h
  have hk : k < (a :: met).length := (List.getElem?_eq_some_iff.1 h5).1
  have pre : ∀ j y, (a :: (met ++ [d]))[j]? = some y → j < (a :: met).length → (a :: met)[j]? = some y := fun j y hy hj => by
    rw [← List.cons_append, List.getElem?_append_left hj] at hy
    exact hy
  refine ⟨⟨List.nodup_append.2 ⟨h1, by simp, fun y hy z hz => by simp at hz; subst hz; exact fun e => hm (e ▸ hy)⟩, ?_, fun y hy => ?_, fun j y hj hy e he => ?_⟩, ?_, fun y hy => ?_⟩
  · simp only [List.mem_append, List.mem_singleton, not_or]; exact ⟨h2, fun e => hg e.symm⟩
  · rcases List.mem_append.1 hy with hy | hy
    · exact h3 y hy
    · simp at hy; subst hy; exact reach_at ⟨h1, h2, h3, h4⟩ h5 (List.mem_of_getElem? hd)
  · exact List.mem_append_left _ (h4 j y hj (pre j y hy (by omega)) e he)
  · rw [← List.cons_append, List.getElem?_append_left hk]; exact h5
  · rw [List.take_add_one, hd] at hy
    rcases List.mem_append.1 hy with hy | hy
    · exact List.mem_append_left _ (h6 y hy)
    · simp at hy; subst hy; simp
theorem BT.close {qs : List Qc} {a g : Nm} {k : Nat} {x : Nm} {met : List Nm} (h : BT qs a g k (deads qs x).length x met) : BS qs a g (k + 1) met := by
  obtain ⟨⟨h1, h2, h3, h4⟩, h5, h6⟩ := h
  refine ⟨h1, h2, h3, fun j y hj hy d hd => ?_⟩
  rcases Nat.lt_or_ge j k with hlt | hge
  · exact h4 j y hlt hy d hd
  · obtain rfl : j = k := by omega
    rw [h5] at hy; cases hy
    exact h6 d (by rwa [List.take_length])
theorem BS.length {qs : List Qc} {a g : Nm} {k : Nat} {met : List Nm} (h : BS qs a g k met) : met.length ≤ qs.length := by
  have := nodup_length (m := qs.map fun c => c.dead.toList) h.1 fun x hx => by
    cases h.2.2.1 x hx with
    | one h => exact deads_name h
    | step _ h => exact deads_name h
  simpa using this
theorem BS.end {qs : List Qc} {a g : Nm} {met : List Nm} (h : BS qs a g (met.length + 1) met) : ¬ Reach qs a g := fun hr =>
  h.2.1 (reach_closed (fun d hd => h.2.2.2 0 a (Nat.succ_pos _) rfl d hd) (fun x hx d hd => by
    obtain ⟨j, hj, rfl⟩ := List.getElem_of_mem hx
    exact h.2.2.2 (j + 1) _ (by omega) (by simp [hj]) d hd) hr)

def topicB : Nm := "topic/".toUTF8.toList
def queueB : Nm := "queue/".toUTF8.toList
def beginsB (s h : Nm) : Bool := s.take h.length == h

open Classical in
/-- Does a way lead from an address to another one? -/
noncomputable def leadsB (qs : List Qc) (a b : Nm) : Bool := decide (a = b ∨ beginsB a topicB = true ∨ (beginsB a queueB = true ∧ beginsB b queueB = true ∧ Reach qs (a.drop 6) (b.drop 6)))

/-- Alike but for the kind (with the count, too, or not). -/
def alikeE (cnt : Bool) (e x : Ent) : Bool := decide (x.who = e.who) && (x.queue.toList == e.queue.toList) && decide (x.msg = e.msg) && (x.dur == e.dur) && (!cnt || decide (x.count = e.count))
def countL (h : List Ent) (e : Ent) (one two : Int) (cnt : Bool) : Nat := h.countP fun x => (decide (x.kind = one) || decide (x.kind = two)) && alikeE cnt e x

noncomputable def gotL (qs : List Qc) (h : List Ent) (e : Ent) : Nat :=
  if !h.any (fun x => decide (x.msg = e.msg) && decide (x.kind = 1)) then 2
  else if !(!beginsB e.queue.toList queueB || h.any fun x => decide (x.msg = e.msg) && decide (x.kind = 1) && leadsB qs x.queue.toList e.queue.toList) then 3
  else if !h.any (fun x => decide (x.msg = e.msg) && decide (x.kind = 1) && (x.dur == e.dur)) then 4
  else if ((h.countP fun x => decide (x.msg = e.msg) && decide (x.kind = 6) : Nat) : Int) < e.count then 5
  else 0

/-- What is wrong with entry e behind the entries h. -/
noncomputable def wrongL (qs : List Qc) (h : List Ent) (e : Ent) : Nat :=
  if e.kind = 2 ∨ e.kind = 3 then (if countL h e 1 1 false ≤ countL h e 2 3 false then 1 else 0)
  else if e.kind = 4 then gotL qs h e
  else if e.kind = 5 ∨ e.kind = 6 then (if countL h e 4 4 true ≤ countL h e 5 6 true then 6 else 0)
  else 0

/-- The first entry at fault, from entry k on. -/
noncomputable def judgeFrom (qs : List Qc) (es : List Ent) : Nat → Nat → Int × Nat
  | 0, _ => (-1, 0)
  | n + 1, k => match es[k]? with
    | none => (-1, 0)
    | some e => if wrongL qs (es.take k) e = 0 then judgeFrom qs es n (k + 1) else ((k : Int), wrongL qs (es.take k) e)
noncomputable def judgeL (qs : List Qc) (es : List Ent) : Int × Nat := judgeFrom qs es es.length 0

theorem judgeFrom_ok {qs : List Qc} {es : List Ent} {n k : Nat} {e : Ent} (he : es[k]? = some e) (h : wrongL qs (es.take k) e = 0) : judgeFrom qs es (n + 1) k = judgeFrom qs es n (k + 1) := by
  rw [judgeFrom, he]; simp [h]
theorem judgeFrom_bad {qs : List Qc} {es : List Ent} {n k : Nat} {e : Ent} (he : es[k]? = some e) (h : ¬ wrongL qs (es.take k) e = 0) : judgeFrom qs es (n + 1) k = ((k : Int), wrongL qs (es.take k) e) := by
  rw [judgeFrom, he]; simp [h]

end Go.Proofs.Ytgincippgaecfaa.Au
