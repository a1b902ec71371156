/-
  What the program's leads walks over: the Deads of the configurations in a map; how often names are met. No program's code in sight.
-/
import Derived.Test.YtgincippgaecfaaJ8
import Derived.Test.YtgincippgaecfaaJ7
namespace Go.Proofs.Ytgincippgaecfaa.Au
open Go Go.RowKit

theorem least_exists {P : Nat → Prop} (h : ∃ m, P m) : ∃ m, P m ∧ ∀ k, P k → m ≤ k := by
  obtain ⟨m, hm⟩ := h
  induction m using Nat.strongRecOn with
  | _ m ih =>
    by_cases hk : ∃ k, k < m ∧ P k
    · obtain ⟨k, h1, h2⟩ := hk
      exact ih k h1 h2
    · refine ⟨m, hm, fun k hk' => ?_⟩
      false_or_by_contra
      exact hk ⟨k, by omega, hk'⟩
/-- The least number of which P holds (0: there is none). -/
noncomputable def least (P : Nat → Prop) : Nat := open Classical in if h : ∃ m, P m then (least_exists h).choose else 0
theorem least_spec {P : Nat → Prop} (h : ∃ m, P m) : P (least P) := by
  unfold least
  rw [dif_pos h]
  exact (least_exists h).choose_spec.1
theorem least_le {P : Nat → Prop} {m : Nat} (h : P m) : least P ≤ m := by
  unfold least
  rw [dif_pos ⟨m, h⟩]
  exact (least_exists ⟨m, h⟩).choose_spec.2 m h

open Classical in
noncomputable def upd (f : Value → Value) (x v : Value) : Value → Value := fun y => if y = x then v else f y
theorem upd_same (f : Value → Value) (x v : Value) : upd f x v x = v := by unfold upd; simp
theorem upd_other (f : Value → Value) (x v : Value) {y : Value} (h : y ≠ x) : upd f x v y = f y := by unfold upd; simp [h]

/-- 'm[k] = v' at the operation. -/
theorem wpList_put (W : World) {ops : Array Oper} {rest : List Oper} {o : Oper} {a : Act} {Q : Exit → Act → World → Prop} (hg : o.guard = none) (m x v : Operand) (t : TypeId) (hop : o.op = Op.mapUpdate t m x v)
    (k e : TypeId) (K : Maps.Keyed Try.prog k) (ht : Try.prog.underlying t = some (.map k e)) (b n : Nat) (z : Value) (f : Value → Value) (hm : a.eval m = .map (some b)) (h : MapV W k b n z f) (hn : n < maxLen)
    (key val : Value) (hx : a.eval x = key) (hv : a.eval v = val) (hk : KeyOk k key) (hK : ∀ W', MapV W' k b (n + 1) z (upd f key val) → W.grownBy W' (some b) → wpList Try.prog ops Q rest (a.put o.dst undef) W') : wpList Try.prog ops Q (o :: rest) a W := by
  refine wpList_plain hg fun K' hK' => ?_
  obtain ⟨W', hrun, r1, r2⟩ := h.put K ht hn hk val
  unfold Oper.wp
  simp [execOp, hop, hm, hx, hv, hrun, Result.andThen]
  exact hK' _ _ (hK W' (r1 _ (upd_same _ _ _) fun y hy => upd_other _ _ _ hy) r2)

theorem ownsRow_block {A B : World} {base e size n : Nat} {v : Value} {xs : List Value} (h : A.ownsRow base e size v n xs) (hb : ∀ g, v.ownBlock = some g → B.heap[g]? = A.heap[g]?) : B.ownsRow base e size v n xs := by
  refine ⟨h.1, h.2.imp id ?_⟩
  rintro ⟨g, cap, cur, rfl, h1, h2, h3⟩
  exact ⟨g, cap, cur, rfl, h1, (hb g rfl).trans h2, h3⟩
theorem ownsRow_belowJ {A B : World} {m base e size n : Nat} {v : Value} {xs : List Value} (h : A.ownsRow base e size v n xs) (hw : Below m A B) (hm : ∀ g, v.ownBlock = some g → g < m) : B.ownsRow base e size v n xs :=
  ownsRow_block h fun g hg => hw.block g (hm g hg)

/-- The map of the Deads: at a name, a row of what its configurations name. -/
structure DeadAt (base : Nat) (W : World) (hd N : Nat) (fd : Value → Value) (qs : List Qc) : Prop where
  map : MapV W 9 hd N (.slice none 0 0) fd
  rows : ∀ s : ByteArray, s.size ≤ maxLen → ∃ l : List ByteArray, l.map (·.toList) = deads qs s.toList ∧ (∀ x ∈ l, x.size ≤ maxLen) ∧ Strs base W (fd (.string s)) l

theorem DeadAt.below {base hd N : Nat} {A B : World} {fd : Value → Value} {qs : List Qc} (h : DeadAt base A hd N fd qs) (hw : Below A.heap.size A B) : DeadAt base B hd N fd qs :=
  ⟨h.map.below hw h.map.lt, fun s hs => by
    obtain ⟨l, h1, h2, h3⟩ := h.rows s hs
    exact ⟨l, h1, h2, ownsRow_belowJ h3 hw fun g hg => (World.ownsRow.lt h3 g hg).2⟩⟩

/-! ### How many Deads there are in all. -/
theorem deads_cons (c : Qc) (qs : List Qc) (x : Nm) : (deads (c :: qs) x).length ≤ (if c.name.toList = x then 1 else 0) + (deads qs x).length := by
  unfold deads
  rw [List.filter_cons]
  by_cases h : c.name.toList = x
  · split
    · simp; omega
    · simp
  · have : (c.name.toList == x) = false := by simpa using h
    simp [h, this]
def sumD (qs : List Qc) (l : List Nm) : Nat := (l.map fun x => (deads qs x).length).sum
theorem sumD_nil (l : List Nm) : sumD [] l = 0 := by
  unfold sumD deads
  induction l with
  | nil => rfl
  | cons a l ih => simpa using ih
theorem sumD_cons (c : Qc) (qs : List Qc) (l : List Nm) : sumD (c :: qs) l ≤ l.count c.name.toList + sumD qs l := by
  unfold sumD
  induction l with
  | nil => simp
  | cons a l ih =>
    simp only [List.map_cons, List.sum_cons, List.count_cons]
    have h1 := deads_cons c qs a
    have h2 : (if c.name.toList = a then 1 else 0) = if (a == c.name.toList) = true then 1 else 0 := by
      by_cases h : c.name.toList = a
      · simp [h]
      · have h' : ¬ a = c.name.toList := fun e => h e.symm
        simp [h, h']
    omega
theorem sumD_le (qs : List Qc) {l : List Nm} (h : l.Nodup) : sumD qs l ≤ qs.length := by
  induction qs with
  | nil => rw [sumD_nil]; simp
  | cons c qs ih =>
    have h1 := sumD_cons c qs l
    have h2 := List.nodup_iff_count.1 h c.name.toList
    simp only [List.length_cons]
    omega
/-- How many Deads have been looked at before the k-th round. -/
def seen (qs : List Qc) (a : Nm) (met : List Nm) (k : Nat) : Nat := sumD qs ((a :: met).take k)
theorem seen_le {qs : List Qc} {a g : Nm} {k k' : Nat} {met : List Nm} (h : BS qs a g k met) : seen qs a met k' ≤ 2 * qs.length := by
  unfold seen
  cases k' with
  | zero => simp [sumD]
  | succ k' =>
    rw [List.take_succ_cons]
    have h1 := sumD_le qs (l := met.take k') (h.1.sublist (List.take_sublist _ _))
    have h2 := sumD_le qs (l := [a]) (by simp)
    unfold sumD at *
    simp only [List.map_cons, List.sum_cons, List.map_nil, List.sum_nil, Nat.add_zero] at *
    omega
theorem seen_step {qs : List Qc} {a x : Nm} {k : Nat} {met : List Nm} (hx : (a :: met)[k]? = some x) : seen qs a met (k + 1) = seen qs a met k + (deads qs x).length := by
  unfold seen sumD
  rw [List.take_add_one, hx]
  simp
theorem seen_new {qs : List Qc} {a : Nm} {k : Nat} {met : List Nm} {d : Nm} (hk : k ≤ met.length + 1) : seen qs a (met ++ [d]) k = seen qs a met k := by
  unfold seen
  rw [← List.cons_append, List.take_append_of_le_length (by simpa using hk)]

/-- What the tally of the names met tells: just those met are counted. -/
def MetOf (f : Value → Value) (met : List Nm) (T : Nat) : Prop :=
  ∀ s : ByteArray, ∃ c : Nat, f (.string s) = .int .i64 c ∧ c ≤ T ∧ (c = 0 ↔ s.toList ∉ met)
theorem MetOf.start (T : Nat) : MetOf (fun _ => .int .i64 0) [] T := fun _ => ⟨0, rfl, Nat.zero_le _, by simp⟩
theorem string_inj {s t : ByteArray} (h : s.toList = t.toList) : s = t := by
  rw [Lib.toList_data, Lib.toList_data] at h
  cases s; cases t
  simpa using h
theorem MetOf.old {f : Value → Value} {met : List Nm} {T : Nat} (h : MetOf f met T) {s : ByteArray} {c : Nat} (hc : f (.string s) = .int .i64 c) (h0 : c ≠ 0) : MetOf (upd f (.string s) (.int .i64 (c + 1))) met (T + 1) := fun t => by
  by_cases ht : t = s
  · subst ht
    obtain ⟨c', h1, h2, h3⟩ := h t
    have : c' = c := by
      rw [hc] at h1
      simp at h1
      omega
    subst this
    exact ⟨c' + 1, by rw [upd_same]; simp, by omega, by
      constructor
      · intro e; omega
      · intro e; exact absurd (h3.2 e) h0⟩
  · obtain ⟨c', h1, h2, h3⟩ := h t
    exact ⟨c', by rw [upd_other _ _ _ (fun e => ht (by cases e; rfl))]; exact h1, by omega, h3⟩
theorem MetOf.new {f : Value → Value} {met : List Nm} {T : Nat} (h : MetOf f met T) (s : ByteArray) : MetOf (upd f (.string s) (.int .i64 1)) (met ++ [s.toList]) (T + 1) := fun t => by
  by_cases ht : t = s
  · subst ht
    exact ⟨1, by rw [upd_same]; rfl, by omega, by simp⟩
  · obtain ⟨c', h1, h2, h3⟩ := h t
    refine ⟨c', by rw [upd_other _ _ _ (fun e => ht (by cases e; rfl))]; exact h1, by omega, ?_⟩
    rw [h3]
    simp only [List.mem_append, List.mem_singleton, not_or]
    exact ⟨fun e => ⟨e, fun e' => ht (string_inj e')⟩, fun e => e.1⟩

end Go.Proofs.Ytgincippgaecfaa.Au
