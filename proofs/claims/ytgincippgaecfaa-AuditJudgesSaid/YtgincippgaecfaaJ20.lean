/-
  A judge that is being made: what its maps hold behind the first configurations. No program's code in sight.
-/
import Derived.Test.YtgincippgaecfaaJ19
namespace Go.Proofs.Ytgincippgaecfaa.Au
open Go Go.RowKit

/-- Where the dead ones of a queue of that name go, as they lie in a row. -/
def deadsA (qs : List Qc) (s : ByteArray) : List ByteArray := (qs.filter fun c => (c.name.toList == s.toList) && !(c.dead.toList == [])).map (·.dead)
theorem deadsA_list (qs : List Qc) (s : ByteArray) : (deadsA qs s).map (·.toList) = deads qs s.toList := by
  unfold deadsA deads
  rw [List.map_map]; rfl
theorem deadsA_snoc (qs : List Qc) (c : Qc) (s : ByteArray) : deadsA (qs ++ [c]) s = deadsA qs s ++ if c.name = s ∧ c.dead.toList ≠ [] then [c.dead] else [] := by
  unfold deadsA
  rw [List.filter_append, List.map_append]
  congr 1
  by_cases h : c.name = s ∧ c.dead.toList ≠ []
  · rw [if_pos h]
    obtain ⟨h1, h2⟩ := h
    have : (c.dead.toList == []) = false := by simpa using h2
    have hp : ((c.name.toList == s.toList) && !(c.dead.toList == [])) = true := by rw [h1, this]; simp
    simp only [List.filter_cons, hp, if_true, List.filter_nil, List.map_cons, List.map_nil]
  · rw [if_neg h]
    have : ((c.name.toList == s.toList) && !(c.dead.toList == [])) = false := by
      rw [Bool.eq_false_iff]
      intro h'
      simp at h'
      exact h ⟨string_inj h'.1, by simpa using h'.2⟩
    simp only [List.filter_cons, this, List.filter_nil, List.map_nil, Bool.false_eq_true, if_false]
theorem deadsA_len (qs : List Qc) (s : ByteArray) : (deadsA qs s).length ≤ qs.length := by
  unfold deadsA; rw [List.length_map]; exact List.length_filter_le _ _
theorem deadsA_size {qs : List Qc} (h : ∀ c ∈ qs, c.dead.size ≤ maxLen) (s : ByteArray) : ∀ x ∈ deadsA qs s, x.size ≤ maxLen := by
  intro x hx
  unfold deadsA at hx
  obtain ⟨c, hc, rfl⟩ := List.mem_map.1 hx
  exact h c (List.mem_filter.1 hc).1

/-- The map of the Deads, while it is made: rows apart from each other, from block B on. -/
def JDB (B b n : Nat) (c : ByteArray → List ByteArray) (W : World) : Prop :=
  ∃ f, MapV W 9 b n (.slice none 0 0) f ∧ (∀ s, Strs B W (f (.string s)) (c s)) ∧ ∀ s s', s ≠ s' → ∀ g, (f (.string s)).ownBlock = some g → (f (.string s')).ownBlock ≠ some g

section
variable {W W' : World} {b n B : Nat} {row : Option Nat} {c c' : ByteArray → List ByteArray}

theorem JDB.kept (h : JDB B b n c W) (hg : W.grownBy W' row) (hr : row = none) : JDB B b n c W' := by
  subst hr
  obtain ⟨f, h1, h2, h3⟩ := h
  exact ⟨f, h1.kept hg (by simp), fun s => ownsRow_kept (h2 s) hg (by simp), h3⟩
theorem JDB.mono (h : JDB B b n c W) {m : Nat} (hm : n ≤ m) : JDB B b m c W := by
  obtain ⟨f, h1, h2⟩ := h
  exact ⟨f, h1.mono hm, h2⟩
theorem JDB.congr (h : JDB B b n c W) (hc : ∀ s, c' s = c s) : JDB B b n c' W := by
  obtain ⟨f, h1, h2, h3⟩ := h
  exact ⟨f, h1, fun m => by rw [hc]; exact h2 m, h3⟩

/-- One name more in a row. -/
theorem JDB.step {f : Value → Value} {W1 W2 : World} {nm x : ByteArray} {v' : Value} {tmp : Obj} (hBW : B ≤ W.heap.size) (hbB : b < B) (h2 : ∀ s, Strs B W (f (.string s)) (c s)) (h3 : ∀ s s', s ≠ s' → ∀ g, (f (.string s)).ownBlock = some g → (f (.string s')).ownBlock ≠ some g)
    (hg : (W.alloc tmp).grownBy W1 (f (.string nm)).ownBlock) (hown : Strs B W1 v' (c nm ++ [x])) (hat : ∀ g, v'.ownBlock = some g → (f (.string nm)).ownBlock = some g ∨ W.heap.size ≤ g)
    (hM2 : MapV W2 9 b (n + 1) (.slice none 0 0) (upd f (.string nm) v')) (hg2 : W1.grownBy W2 (some b)) (hc : ∀ s, c' s = if s = nm then c s ++ [x] else c s) : JDB B b (n + 1) c' W2 := by
  have hne : ∀ s, s ≠ nm → upd f (.string nm) v' (.string s) = f (.string s) := fun s hs => upd_other _ _ _ (fun e => hs (by cases e; rfl))
  refine ⟨_, hM2, fun s => ?_, fun m m' hmm g hb hb' => ?_⟩
  · rw [hc]
    by_cases h : s = nm
    · subst h
      rw [if_pos rfl, upd_same]
      refine ownsRow_kept hown hg2 fun r e hb => ?_
      have := Option.some.inj e
      have := (World.ownsRow.lt hown r hb).1
      omega
    · rw [if_neg h, hne s h]
      have h5 : Strs B W1 (f (.string s)) (c s) := by
        refine ownsRow_kept (ownsRow_block (B := W.alloc tmp) (h2 s) fun g hb => Below.heap_alloc W tmp g (World.ownsRow.lt (h2 s) g hb).2) hg fun r e hb => ?_
        exact h3 _ _ (fun e => h e.symm) r e hb
      refine ownsRow_kept h5 hg2 fun r e hb => ?_
      have := Option.some.inj e
      have := (World.ownsRow.lt h5 r hb).1
      omega
  · by_cases h : m = nm
    · subst h
      rw [upd_same] at hb
      rw [hne m' (fun e => hmm e.symm)] at hb'
      rcases hat g hb with h6 | h6
      · exact h3 _ _ hmm g h6 hb'
      · have := (World.ownsRow.lt (h2 m') g hb').2
        omega
    · rw [hne m h] at hb
      by_cases h' : m' = nm
      · subst h'
        rw [upd_same] at hb'
        rcases hat g hb' with h6 | h6
        · exact h3 _ _ hmm g hb h6
        · have := (World.ownsRow.lt (h2 m) g hb).2
          omega
      · rw [hne m' h'] at hb'
        exact h3 _ _ hmm g hb hb'
end

/-- The judge behind the first k configurations. -/
structure JL (S : Nat) (w0 : World) (qs : List Qc) (k : Nat) (W : World) : Prop where
  below : Below S w0 W
  size : S + 6 ≤ W.heap.size
  box : W.heap[S + 5]? = some (.cells #[.map (some S), .map (some (S + 1)), .map (some (S + 2)), .map (some (S + 3)), .map (some (S + 4))] 66 (0, 0))
  dead : JDB (S + 6) S k (deadsA (qs.take k)) W
  open_ : MapV W 55 (S + 1) 0 (.int .i64 0) fun _ => .int .i64 0
  held : MapV W 55 (S + 2) 0 (.int .i64 0) fun _ => .int .i64 0
  sent : MapV W 3 (S + 3) 0 (.slice none 0 0) fun _ => .slice none 0 0
  back : MapV W 3 (S + 4) 0 (.int .i64 0) fun _ => .int .i64 0

section
variable {S : Nat} {w0 W W' : World} {qs : List Qc} {k : Nat} {c : Qc}

theorem JL.start (w : World) (qs : List Qc) : JL w.heap.size w qs 0 ((((((w.alloc (.map #[] 0)).alloc (.map #[] 0)).alloc (.map #[] 0)).alloc (.map #[] 0)).alloc (.map #[] 0)).alloc (.cells #[.map (some w.heap.size), .map (some (w.heap.size + 1)), .map (some (w.heap.size + 2)), .map (some (w.heap.size + 3)), .map (some (w.heap.size + 4))] 66 (0, 0))) := by
  refine ⟨?_, by simp, ?_, ⟨_, ((((((MapV.made w 9 (.slice none 0 0)).alloc _).alloc _).alloc _).alloc _).alloc _), fun s => World.ownsRow_nil _ _ _ _, fun s s' _ g e => by cases e⟩, ?_, ?_, ?_, ?_⟩
  · exact ((((((Below.refl _ w).alloc (Nat.le_refl _) _).alloc (by simp) _).alloc (by simp; omega) _).alloc (by simp; omega) _).alloc (by simp; omega) _).alloc (by simp; omega) _
  · have := World.alloc_heap_new (((((w.alloc (.map #[] 0)).alloc (.map #[] 0)).alloc (.map #[] 0)).alloc (.map #[] 0)).alloc (.map #[] 0)) (.cells #[.map (some w.heap.size), .map (some (w.heap.size + 1)), .map (some (w.heap.size + 2)), .map (some (w.heap.size + 3)), .map (some (w.heap.size + 4))] 66 (0, 0))
    simpa using this
  · have := (((((MapV.made (w.alloc (.map #[] 0)) 55 (.int .i64 0)).alloc (.map #[] 0)).alloc (.map #[] 0)).alloc (.map #[] 0)).alloc (.cells #[.map (some w.heap.size), .map (some (w.heap.size + 1)), .map (some (w.heap.size + 2)), .map (some (w.heap.size + 3)), .map (some (w.heap.size + 4))] 66 (0, 0)))
    simpa using this
  · have := ((((MapV.made ((w.alloc (.map #[] 0)).alloc (.map #[] 0)) 55 (.int .i64 0)).alloc (.map #[] 0)).alloc (.map #[] 0)).alloc (.cells #[.map (some w.heap.size), .map (some (w.heap.size + 1)), .map (some (w.heap.size + 2)), .map (some (w.heap.size + 3)), .map (some (w.heap.size + 4))] 66 (0, 0)))
    simpa using this
  · have := (((MapV.made (((w.alloc (.map #[] 0)).alloc (.map #[] 0)).alloc (.map #[] 0)) 3 (.slice none 0 0)).alloc (.map #[] 0)).alloc (.cells #[.map (some w.heap.size), .map (some (w.heap.size + 1)), .map (some (w.heap.size + 2)), .map (some (w.heap.size + 3)), .map (some (w.heap.size + 4))] 66 (0, 0)))
    simpa using this
  · have := ((MapV.made ((((w.alloc (.map #[] 0)).alloc (.map #[] 0)).alloc (.map #[] 0)).alloc (.map #[] 0)) 3 (.int .i64 0)).alloc (.cells #[.map (some w.heap.size), .map (some (w.heap.size + 1)), .map (some (w.heap.size + 2)), .map (some (w.heap.size + 3)), .map (some (w.heap.size + 4))] 66 (0, 0)))
    simpa using this

/-- No change but new blocks. -/
theorem JL.grown (h : JL S w0 qs k W) (hg : W.grownBy W' none) : JL S w0 qs k W' := by
  have := h.size
  exact ⟨h.below.grown hg (by omega) (by simp), Nat.le_trans h.size hg.size, (hg.block _ (by omega) (by simp)).trans h.box, h.dead.kept hg rfl, h.open_.kept hg (by simp), h.held.kept hg (by simp), h.sent.kept hg (by simp), h.back.kept hg (by simp)⟩
theorem JL.pass (h : JL S w0 qs k W) (hc : qs[k]? = some c) (hd : c.dead.toList = []) : JL S w0 qs (k + 1) W := by
  refine ⟨h.below, h.size, h.box, (h.dead.mono (Nat.le_succ _)).congr fun s => ?_, h.open_, h.held, h.sent, h.back⟩
  rw [List.take_add_one, hc]
  simp only [Option.toList_some]
  rw [deadsA_snoc, if_neg (fun h => h.2 hd)]; simp

theorem JL.step (h : JL S w0 qs k W) (hc : qs[k]? = some c) (hd : c.dead.toList ≠ []) {f : Value → Value} {W1 : World} {v' : Value} {tmp : Obj} (h2 : ∀ s, Strs (S + 6) W (f (.string s)) (deadsA (qs.take k) s)) (h3 : ∀ s s', s ≠ s' → ∀ g, (f (.string s)).ownBlock = some g → (f (.string s')).ownBlock ≠ some g)
    (hg : (W.alloc tmp).grownBy W1 (f (.string c.name)).ownBlock) (hown : Strs (S + 6) W1 v' (deadsA (qs.take k) c.name ++ [c.dead])) (hat : ∀ g, v'.ownBlock = some g → (f (.string c.name)).ownBlock = some g ∨ W.heap.size ≤ g)
    (hM2 : MapV W' 9 S (k + 1) (.slice none 0 0) (upd f (.string c.name) v')) (hg2 : W1.grownBy W' (some S)) : JL S w0 qs (k + 1) W' := by
  have hsz := h.size
  have s1 := hg.size
  simp only [World.size_alloc] at s1
  have hv : ∀ r, (f (.string c.name)).ownBlock = some r → S + 6 ≤ r := fun r hr => (World.ownsRow.lt (h2 c.name) r hr).1
  have hvn : ∀ r, r < S + 6 → some r ≠ (f (.string c.name)).ownBlock := fun r hr e2 => by have := hv r e2.symm; omega
  have gA := World.grownBy_alloc W tmp none
  have hA := h.grown gA
  refine ⟨(hA.below.grown hg (by simp; omega) (fun r e2 => by have := hv r e2; omega)).grown hg2 (by omega) (fun r e => by have := Option.some.inj e; omega), by have := hg2.size; omega, ?_, ?_, ?_, ?_, ?_, ?_⟩
  · exact (hg2.block _ (by omega) (by simp)).trans ((hg.block _ (by simp; omega) (hvn _ (by omega))).trans hA.box)
  · refine JDB.step (by omega) (by omega) h2 h3 hg hown hat hM2 hg2 fun s => ?_
    rw [List.take_add_one, hc]
    simp only [Option.toList_some]
    rw [deadsA_snoc]
    by_cases hm : s = c.name
    · subst hm; rw [if_pos ⟨rfl, hd⟩, if_pos rfl]
    · rw [if_neg (fun h => hm h.1.symm), if_neg hm]; simp
  · exact (hA.open_.kept hg (hvn _ (by omega))).kept hg2 (by simp)
  · exact (hA.held.kept hg (hvn _ (by omega))).kept hg2 (by simp)
  · exact (hA.sent.kept hg (hvn _ (by omega))).kept hg2 (by simp)
  · exact (hA.back.kept hg (hvn _ (by omega))).kept hg2 (by simp)

/-- The judge is made. -/
theorem JL.end (h : JL S w0 qs qs.length W) (hS : S ≤ w0.heap.size) (hz : ∀ c ∈ qs, c.dead.size ≤ maxLen) : JI S W.heap.size w0 qs [] W := by
  obtain ⟨f, h1, h2, h3⟩ := h.dead
  rw [List.take_length] at h2
  refine ⟨h.below, hS, h.size, Nat.le_refl _, h.box, ⟨_, f, ⟨h1, fun s _ => ⟨deadsA qs s, deadsA_list qs s, deadsA_size hz s, h2 s⟩⟩, fun s _ g hg => (World.ownsRow.lt (h2 s) g hg).2⟩, ⟨_, h.open_, fun e => rfl⟩, ⟨_, h.held, fun e => rfl⟩, ⟨_, h.sent, fun m => World.ownsRow_nil _ _ _ _, fun m m' _ g e => by cases e⟩, ⟨_, h.back, fun m => rfl⟩, fun e => ⟨by simp [openC, countL], by simp [heldC, countL]⟩⟩
theorem JL.cell0 (h : JL S w0 qs k W) : W.cell? ⟨S + 5, 0, none⟩ = some (.map (some S)) := by
  have := h.box
  simp [World.cell?, this]
end

end Go.Proofs.Ytgincippgaecfaa.Au
