/-
  What the program's leads walks over, round by round. No program's code in sight.
-/
import Derived.Test.YtgincippgaecfaaJ9
namespace Go.Proofs.Ytgincippgaecfaa.Au
open Go Go.RowKit

/-- The tally of the names met; the row of those still to be gone on from; what lay below. -/
structure LW (w : World) (met : List Nm) (T : Nat) (l : List ByteArray) (v : Value) (W : World) : Prop where
  tally : ∃ fm, MapV W 9 w.heap.size T (.int .i64 0) fm ∧ MetOf fm met T
  row : Nx (w.heap.size + 1) W v l
  sizes : ∀ x ∈ l, x.size ≤ maxLen
  below : Below w.heap.size w W
  size : w.heap.size + 1 ≤ W.heap.size

/-- Between two rounds of the outer loop. -/
def LO (w : World) (qs : List Qc) (a g : Nm) (k : Nat) (v : Value) (W : World) : Prop :=
  ∃ met l, BS qs a g k met ∧ (a :: met).drop k = l.map (·.toList) ∧ k ≤ met.length + 1 ∧ LW w met (seen qs a met k) l v W
/-- Between two rounds of the inner loop. -/
def LQ (w : World) (qs : List Qc) (a g : Nm) (k i : Nat) (x : ByteArray) (v : Value) (W : World) : Prop :=
  ∃ met rest, BT qs a g k i x.toList met ∧ (a :: met).drop k = x.toList :: rest.map (·.toList) ∧ LW w met (seen qs a met k + i) (x :: rest) v W

section
variable {w W W' : World} {qs : List Qc} {a g : Nm} {k i : Nat} {x y : ByteArray} {v v' : Value} {met : List Nm} {rest : List ByteArray} {T : Nat} {l : List ByteArray}

theorem LW.grown (h : LW w met T l v W) {row : Option Nat} (hg : W.grownBy W' row) (hr : row = none) : LW w met T l v W' := by
  subst hr
  obtain ⟨⟨fm, h1, h2⟩, h3, h4, h5, h6⟩ := h
  exact ⟨⟨fm, h1.kept hg (by simp), h2⟩, h3.grown hg (by simp), h4, h5.grown hg h5.size (by simp), Nat.le_trans h6 hg.size⟩

theorem LO.start (w : World) (qs : List Qc) (x : ByteArray) (g : Nm) (hx : x.size ≤ maxLen) :
    LO w qs x.toList g 0 (.slice (some ⟨w.heap.size + 1, 0, none⟩) 1 1) ((w.alloc (.map #[] 0)).alloc (.cells #[.string x] 9 (0, 0))) := by
  refine ⟨[], [x], BS.start qs _ g, rfl, Nat.zero_le _, ⟨_, ((MapV.made w 9 (.int .i64 0)).alloc _).mono (Nat.zero_le _), MetOf.start _⟩, ?_, ?_, ?_, ?_⟩
  · have := Nx.start (w.alloc (.map #[] 0)) x (base := w.heap.size + 1) (by simp)
    simpa using this
  · intro y hy; simp at hy; subst hy; exact hx
  · exact ((Below.refl _ w).alloc (Nat.le_refl _) _).alloc (by simp) _
  · simp

theorem LO.stop (h : LO w qs a g k v W) (hl : ∃ p c, v = .slice p 0 c) : ¬ Reach qs a g := by
  obtain ⟨met, l, h1, h2, h3, h4⟩ := h
  obtain ⟨_, _, _, e, _⟩ := h4.row
  obtain ⟨p, c, e2⟩ := hl
  rw [e] at e2
  obtain rfl : l = [] := by simp at e2; exact e2.2.1
  have h5 := congrArg List.length h2
  simp at h5
  obtain rfl : k = met.length + 1 := by omega
  exact h1.end

theorem LO.cases (h : LO w qs a g k v W) : (∃ g' off cap, v = .slice (some ⟨g', off, none⟩) 0 cap) ∨ ∃ x rest g' off cap, v = .slice (some ⟨g', off, none⟩) (rest.length + 1) cap ∧ W.cell? ⟨g', off, none⟩ = some (.string x) ∧ x.size ≤ maxLen ∧ w.heap.size < g' ∧ (rest : List ByteArray).length + 1 ≤ cap ∧ rest.length ≤ qs.length ∧ k ≤ qs.length ∧ LQ w qs a g k 0 x v W := by
  obtain ⟨met, l, h1, h2, h3, h4⟩ := h
  obtain ⟨g', off, cap, e, hb, hlt, hlc, hcm, hce, hcl⟩ := h4.row
  cases l with
  | nil => exact .inl ⟨g', off, cap, e⟩
  | cons x rest =>
    have hk : (a :: met)[k]? = some x.toList := by
      have := congrArg (fun l => l[0]?) h2
      simpa using this
    have hlm := h1.length
    have hk2 : k < (a :: met).length := (List.getElem?_eq_some_iff.1 hk).1
    have hl2 := congrArg List.length h2
    simp at hk2 hl2
    refine .inr ⟨x, rest, g', off, cap, e, ?_, h4.sizes x (by simp), by omega, by simpa using hlc, by omega, by omega, met, rest, h1.open hk, h2, h4⟩
    have := hce 0 x rfl
    simpa using this

theorem LQ.hit (h : LQ w qs a g k i x v W) (hy : (deads qs x.toList)[i]? = some g) : Reach qs a g := by
  obtain ⟨met, rest, h1, _⟩ := h
  exact h1.hit hy

/-- What a round of the inner loop opens. -/
theorem LQ.opened (h : LQ w qs a g k i x v W) (hy : (deads qs x.toList)[i]? = some y.toList) (hq : qs.length * 56 ≤ 140737488351232) :
    ∃ met rest fm c, BT qs a g k i x.toList met ∧ (a :: met).drop k = x.toList :: rest.map (·.toList) ∧ LW w met (seen qs a met k + i) (x :: rest) v W ∧ MapV W 9 w.heap.size (seen qs a met k + i) (.int .i64 0) fm ∧ MetOf fm met (seen qs a met k + i) ∧
      fm (.string y) = .int .i64 (c : Nat) ∧ c ≤ 9000000000000 ∧ (c = 0 ↔ y.toList ∉ met) ∧ (seen qs a met k + i) < maxLen ∧ rest.length ≤ 2600000000000 := by
  obtain ⟨met, rest, h1, h2, h3⟩ := h
  obtain ⟨fm, hM, hF⟩ := h3.tally
  obtain ⟨c, hc, hcT, hc0⟩ := hF y
  have h4 := seen_le h1.1 (k' := k)
  have h5 : i < (deads qs x.toList).length := (List.getElem?_eq_some_iff.1 hy).1
  have h6 : (deads qs x.toList).length ≤ qs.length := by unfold deads; rw [List.length_map]; exact List.length_filter_le _ _
  have h7 := h1.1.length
  have hl2 := congrArg List.length h2
  simp at hl2
  exact ⟨met, rest, fm, c, h1, h2, h3, hM, hF, hc, by omega, hc0, by unfold maxLen; omega, by omega⟩

theorem LQ.old {fm : Value → Value} {c : Nat} (h1 : BT qs a g k i x.toList met) (h2 : (a :: met).drop k = x.toList :: rest.map (·.toList)) (h3 : LW w met (seen qs a met k + i) (x :: rest) v W) (hF : MetOf fm met (seen qs a met k + i))
    (hc : fm (.string y) = .int .i64 c) (hc0 : c = 0 ↔ y.toList ∉ met) (h0 : c ≠ 0) (hy : (deads qs x.toList)[i]? = some y.toList) (hM : MapV W' 9 w.heap.size (seen qs a met k + i + 1) (.int .i64 0) (upd fm (.string y) (.int .i64 (c + 1)))) (hg : W.grownBy W' (some w.heap.size)) :
    LQ w qs a g k (i + 1) x v W' := by
  have hm : y.toList ∈ met := by
    false_or_by_contra
    rename_i hn
    exact h0 (hc0.2 hn)
  exact ⟨met, rest, h1.old hy hm, h2, ⟨_, hM, hF.old hc h0⟩, h3.row.grown hg (fun r e => by have := Option.some.inj e; omega), h3.sizes, h3.below.grown hg h3.below.size (fun r e => by have := Option.some.inj e; omega), Nat.le_trans h3.size hg.size⟩

theorem LQ.new {fm : Value → Value} {tmp : Obj} {g' : Nat} {W'' : World} (h1 : BT qs a g k i x.toList met) (h2 : (a :: met).drop k = x.toList :: rest.map (·.toList)) (h3 : LW w met (seen qs a met k + i) (x :: rest) v W) (hF : MetOf fm met (seen qs a met k + i))
    (hc0 : y.toList ∉ met) (hyg : y.toList ≠ g) (hs : y.size ≤ maxLen) (hy : (deads qs x.toList)[i]? = some y.toList) (hM : MapV W' 9 w.heap.size (seen qs a met k + i + 1) (.int .i64 0) (upd fm (.string y) (.int .i64 1))) (hg : W.grownBy W' (some w.heap.size))
    (hN : Nx (w.heap.size + 1) W'' v' (x :: rest ++ [y])) (hg1 : w.heap.size + 1 ≤ g') (hg2 : (W'.alloc tmp).grownBy W'' (some g')) :
    LQ w qs a g k (i + 1) x v' W'' := by
  have hk : k < (a :: met).length := by
    have := congrArg List.length h2
    simp at this
    simp; omega
  refine ⟨met ++ [y.toList], rest ++ [y], h1.new hy hc0 hyg, ?_, ⟨upd fm (.string y) (.int .i64 1), ?_, ?_⟩, by simpa using hN, ?_, ?_, ?_⟩
  · rw [← List.cons_append, List.drop_append_of_le_length (Nat.le_of_lt hk), h2]; simp
  · rw [seen_new (by simpa using Nat.le_of_lt hk)]
    exact (hM.alloc tmp).kept hg2 (fun e => by have := Option.some.inj e; omega)
  · rw [seen_new (by simpa using Nat.le_of_lt hk)]
    exact hF.new y
  · intro z hz
    rw [← List.cons_append] at hz
    rcases List.mem_append.1 hz with hz | hz
    · exact h3.sizes z hz
    · simp at hz; subst hz; exact hs
  · have hb1 : Below w.heap.size w W' := h3.below.grown hg h3.below.size (fun r e => by have := Option.some.inj e; omega)
    exact (hb1.alloc hb1.size tmp).grown hg2 (by have := hb1.size; simp; omega) (fun r e => by have := Option.some.inj e; omega)
  · have := h3.size
    have := hg.size
    have h9 := hg2.size
    simp at h9
    omega

/-- The end of a round of the outer loop. -/
theorem LQ.close (h : LQ w qs a g k (deads qs x.toList).length x v W) : ∃ g' off n cap, v = .slice (some ⟨g', off, none⟩) (n + 1) cap ∧ n + 1 ≤ cap ∧
    (cap = 1 → LO w qs a g (k + 1) (.slice (some ⟨g', off, none⟩) 0 0) W) ∧ LO w qs a g (k + 1) (.slice (some ⟨g', off + 1, none⟩) n (cap - 1)) W := by
  obtain ⟨met, rest, h1, h2, h3⟩ := h
  obtain ⟨g', off, cap, e, hb, hlt, hlc, hcm, hce, hcl⟩ := h3.row
  have hseen := seen_step (qs := qs) h1.2.1
  have hd : (a :: met).drop (k + 1) = rest.map (·.toList) := by
    have h5 := congrArg List.tail h2
    rwa [List.tail_drop, List.tail_cons] at h5
  have hk : k < (a :: met).length := by
    have := congrArg List.length h2
    simp at this
    simp; omega
  simp only [List.length_cons] at hlc
  refine ⟨g', off, rest.length, cap, by rw [e]; simp, hlc, fun hc1 => ?_, ?_⟩
  · obtain rfl : rest = [] := List.length_eq_zero_iff.1 (by omega)
    exact ⟨met, [], h1.close, hd, by simp at hk; omega, ⟨by rw [hseen]; exact h3.tally, ⟨g', off, 0, by simp, hb, hlt, by simp, by simp, by simp, fun j hj => absurd hj (Nat.not_lt_zero _)⟩, by simp, h3.below, h3.size⟩⟩
  · refine ⟨met, rest, h1.close, hd, by simp at hk; omega, ⟨by rw [hseen]; exact h3.tally, ?_, fun z hz => h3.sizes z (by simp [hz]), h3.below, h3.size⟩⟩
    have := h3.row
    rw [e] at this
    exact Nx.next this

theorem LQ.closeAt {g' off n cap : Nat} (h : LQ w qs a g k i x (.slice (some ⟨g', off, none⟩) (n + 1) cap) W) (hi : i = (deads qs x.toList).length) : (cap = 1 → LO w qs a g (k + 1) (.slice (some ⟨g', off, none⟩) 0 0) W) ∧ LO w qs a g (k + 1) (.slice (some ⟨g', off + 1, none⟩) n (cap - 1)) W := by
  subst hi
  obtain ⟨g2, off2, n2, cap2, e, _, hA, hB⟩ := h.close
  simp only [Value.slice.injEq, Option.some.injEq, Addr.mk.injEq, Nat.add_right_cancel_iff] at e
  obtain ⟨⟨rfl, rfl, _⟩, rfl, rfl⟩ := e
  exact ⟨hA, hB⟩
theorem LO.drewN (h : LO w qs a g k v W) (n : Nat) : LO w qs a g k v (W.drewN n) := by
  obtain ⟨met, l, h1, h2, h3, h4⟩ := h
  exact ⟨met, l, h1, h2, h3, h4.grown (row := none) ⟨rfl, rfl, rfl, Nat.le_refl _, fun _ _ _ => rfl⟩ rfl⟩
theorem LQ.drewN (h : LQ w qs a g k i x v W) (n : Nat) : LQ w qs a g k i x v (W.drewN n) := by
  obtain ⟨met, l, h1, h2, h4⟩ := h
  exact ⟨met, l, h1, h2, h4.grown (row := none) ⟨rfl, rfl, rfl, Nat.le_refl _, fun _ _ _ => rfl⟩ rfl⟩

/-- What is left of the outer loop. -/
noncomputable def LM (w : World) (qs : List Qc) (a g : Nm) (v : Value) (W : World) : Nat := least fun m => ∃ k, m = qs.length + 1 - k ∧ LO w qs a g k v W
theorem LM.open (h : ∃ k, LO w qs a g k v W) : ∃ k, LO w qs a g k v W ∧ LM w qs a g v W = qs.length + 1 - k := by
  obtain ⟨k, hk⟩ := h
  obtain ⟨k', e, h'⟩ := least_spec (P := fun m => ∃ k, m = qs.length + 1 - k ∧ LO w qs a g k v W) ⟨_, k, rfl, hk⟩
  exact ⟨k', h', e⟩
theorem LM.le (h : LO w qs a g k v W) : LM w qs a g v W ≤ qs.length + 1 - k := least_le ⟨k, rfl, h⟩
theorem LO.round (h : LO w qs a g (k + 1) v' W') (n : Nat) (hm : LM w qs a g v W = qs.length + 1 - k) (hk : k ≤ qs.length) : (∃ k, LO w qs a g k v' (W'.drewN n)) ∧ LM w qs a g v' (W'.drewN n) < LM w qs a g v W := by
  have h1 := h.drewN n
  have h2 := LM.le h1
  exact ⟨⟨_, h1⟩, by omega⟩
/-- The form of the row's value in the inner loop. -/
theorem LQ.form (h : LQ w qs a g k i x v W) : ∃ g' off n cap, v = .slice (some ⟨g', off, none⟩) (n + 1) cap ∧ n + 1 ≤ cap := by
  obtain ⟨met, rest, h1, h2, h3⟩ := h
  obtain ⟨g', off, cap, e, hb, hlt, hlc, hcm, hce, hcl⟩ := h3.row
  exact ⟨g', off, rest.length, cap, e, hlc⟩
end

end Go.Proofs.Ytgincippgaecfaa.Au
