/-
  Plain: slices that are their owner's: families of rows in blocks of their own, written with marks and grown. No condition.
-/
import Derived.WalkKit
import Derived.Below
import Derived.ArgAppend
import Derived.Deep.MidRow
import Derived.Deep.Upon
import Derived.Maps.AppendAt
namespace Go.Proofs.Nu
open Go Go.RowKit

/-- To whom a block belongs: a family, and where its rows begin. -/
abbrev OwnF (F : Type) := Nat → Option (F × Nat)
/-- A slice of a family: its first m elements read as the family's mark. -/
def Fam {F : Type} (pat : F → List Value) (own : OwnF F) (w : World) (f : F) (m N : Nat) (v : Value) : Prop :=
  v = .slice none 0 0 ∨ ∃ b off n c, v = .slice (some ⟨b, off, none⟩) n c ∧ own b = some (f, off) ∧ n ≤ c ∧ n ≤ N ∧ w.there b off (c * (pat f).length) ∧
    ∀ k, k < m → k < n → ∀ j x, (pat f)[j]? = some x → w.cell? ⟨b, off + k * (pat f).length + j, none⟩ = some x

section
variable {F : Type} {pat : F → List Value} {own own' : OwnF F} {w w' : World} {f f' : F} {m m' N N' : Nat} {v : Value}

theorem there_heap {b o n : Nat} (h : w.there b o n) (e : w'.heap[b]? = w.heap[b]?) : w'.there b o n := fun j hj =>
  ⟨by rw [World.cell?_of_block (a := ⟨b, o + j, none⟩) e]; exact (h j hj).1, by rw [World.frozen?_of_block (a := ⟨b, o + j, none⟩) e]; exact (h j hj).2⟩
theorem there_lt {b o n : Nat} (h : w.there b o n) (h0 : 0 < n) : b < w.heap.size := by
  have := (h 0 h0).1
  unfold World.cell? at this
  cases e : w.heap[b]? with
  | none => simp [e] at this
  | some x => exact (Array.getElem?_eq_some_iff.1 e).1
theorem Fam.mono (h : Fam pat own w f m N v) (hm : m' ≤ m) (hN : N ≤ N') : Fam pat own w f m' N' v := by
  rcases h with h | ⟨b, off, n, c, h1, h2, h3, h4, h5, h6⟩
  · exact .inl h
  · exact .inr ⟨b, off, n, c, h1, h2, h3, by omega, h5, fun k hk => h6 k (by omega)⟩
theorem Fam.all (h : Fam pat own w f N N v) (m : Nat) : Fam pat own w f m N v := by
  rcases h with h | ⟨b, off, n, c, h1, h2, h3, h4, h5, h6⟩
  · exact .inl h
  · exact .inr ⟨b, off, n, c, h1, h2, h3, h4, h5, fun k _ hn => h6 k (by omega) hn⟩
theorem Fam.heap (h : Fam pat own w f m N v) (he : ∀ b x, own b = some x → own' b = some x ∧ w'.heap[b]? = w.heap[b]?) : Fam pat own' w' f m N v := by
  rcases h with h | ⟨b, off, n, c, h1, h2, h3, h4, h5, h6⟩
  · exact .inl h
  · obtain ⟨e1, e2⟩ := he b _ h2
    exact .inr ⟨b, off, n, c, h1, e1, h3, h4, there_heap h5 e2, fun k hk hn j x hx => (World.cell?_of_block (a := ⟨b, _, none⟩) e2).trans (h6 k hk hn j x hx)⟩
/-- Which elements two aligned places share. -/
theorem place_ne {k k' z j i : Nat} (hj : j < z) (hi : i < z) (h : k ≠ k') : k * z + j ≠ k' * z + i := by
  rcases Nat.lt_or_gt_of_ne h with h | h
  · have := Nat.mul_le_mul_right z (show k + 1 ≤ k' by omega)
    rw [Nat.add_mul] at this; omega
  · have := Nat.mul_le_mul_right z (show k' + 1 ≤ k by omega)
    rw [Nat.add_mul] at this; omega
theorem place_lt {k c z j : Nat} (hj : j < z) (h : k < c) : k * z + j < c * z := by
  have := Nat.mul_le_mul_right z (show k + 1 ≤ c by omega)
  rw [Nat.add_mul] at this; omega
theorem there_at {b off c z k : Nat} (h : w.there b off (c * z)) (hk : k < c) : w.there b (off + k * z) z := fun j hj => by
  have := h (k * z + j) (place_lt hj hk)
  rwa [← Nat.add_assoc] at this
theorem setCells_in {b o : Nat} {vs : List Value} (h : w.there b o vs.length) {j : Nat} {x : Value} (hx : vs[j]? = some x) : (w.setCells b o vs).cell? ⟨b, o + j, none⟩ = some x := by
  have hj := (List.getElem?_eq_some_iff.1 hx).1
  rw [World.cell?_setCells_in b vs o w (fun j hj => (h j hj).1) j hj]
  exact congrArg some (List.getElem?_eq_some_iff.1 hx).2
/-- A family's mark is written at one of its places: nothing that reads as a mark turns. -/
theorem Fam.write {b off k c : Nat} (hb : own b = some (f, off)) (ht : w.there b off (c * (pat f).length)) (hk : k < c) (h : Fam pat own w f' m N v) :
    Fam pat own (w.setCells b (off + k * (pat f).length) (pat f)) f' m N v := by
  rcases h with h | ⟨b', off', n, c', h1, h2, h3, h4, h5, h6⟩
  · exact .inl h
  · refine .inr ⟨b', off', n, c', h1, h2, h3, h4, World.there_setCells h5 _ _ _, fun k' hk' hn j x hx => ?_⟩
    by_cases e : b' = b
    · subst e
      rw [hb] at h2
      cases h2
      have hj := (List.getElem?_eq_some_iff.1 hx).1
      by_cases e : k' = k
      · subst e
        exact setCells_in (there_at ht hk) hx
      · rw [World.cell?_setCells_out]
        · exact h6 k' hk' hn j x hx
        · intro _ _
          show off + k' * (pat f).length + j < off + k * (pat f).length ∨ off + k * (pat f).length + (pat f).length ≤ off + k' * (pat f).length + j
          rcases Nat.lt_or_gt_of_ne e with e | e
          · have := place_lt hj e; omega
          · have := Nat.mul_le_mul_right (pat f).length (show k + 1 ≤ k' by omega)
            rw [Nat.add_mul] at this; omega
    · rw [World.cell?_setCells_out _ _ _ _ _ (fun h => absurd h e)]
      exact h6 k' hk' hn j x hx
/-- .. and the slice that is written full goes on. -/
theorem Fam.next {b off n c : Nat} (h : Fam pat own w f m N (.slice (some ⟨b, off, none⟩) n c)) (hm : m < n) : Fam pat own (w.setCells b (off + m * (pat f).length) (pat f)) f (m + 1) N (.slice (some ⟨b, off, none⟩) n c) := by
  rcases h with h | ⟨b', off', n', c', h1, h2, h3, h4, h5, h6⟩
  · cases h
  · cases h1
    refine .inr ⟨b, off, n, c, rfl, h2, h3, h4, World.there_setCells h5 _ _ _, fun k' hk' hn j x hx => ?_⟩
    have hj := (List.getElem?_eq_some_iff.1 hx).1
    by_cases e : k' = m
    · subst e
      exact setCells_in (there_at h5 (by omega)) hx
    · rw [World.cell?_setCells_out]
      · exact h6 k' (by omega) hn j x hx
      · intro _ _
        have := place_lt hj (show k' < m by omega)
        exact .inl (by show off + k' * (pat f).length + j < off + m * (pat f).length; omega)
end

/-- How owned blocks go on: no old block that belongs to nobody has turned, but one row's. -/
structure OStep {F : Type} (pat : F → List Value) (own : OwnF F) (w : World) (own' : OwnF F) (w' : World) (row : Option Nat) : Prop where
  os : w'.os = w.os
  tape : w'.tape = w.tape
  output : w'.output = w.output
  size : w.heap.size ≤ w'.heap.size
  old : ∀ b, b < w.heap.size → own' b = own b
  dom : ∀ b x, own' b = some x → b < w'.heap.size
  kept : ∀ b, b < w.heap.size → own b = none → some b ≠ row → w'.heap[b]? = w.heap[b]?
  fam : ∀ f m N v, Fam pat own w f m N v → Fam pat own' w' f m N v
section
variable {F : Type} {pat : F → List Value} {own own' own'' : OwnF F} {w w' w'' : World} {row : Option Nat}
theorem OStep.trans (h : OStep pat own w own' w' row) (k : OStep pat own' w' own'' w'' row) : OStep pat own w own'' w'' row :=
  ⟨k.os.trans h.os, k.tape.trans h.tape, k.output.trans h.output, Nat.le_trans h.size k.size, fun b hb => (k.old b (Nat.lt_of_lt_of_le hb h.size)).trans (h.old b hb), k.dom,
    fun b hb h0 hr => (k.kept b (Nat.lt_of_lt_of_le hb h.size) ((h.old b hb).trans h0) hr).trans (h.kept b hb h0 hr), fun f m N v hv => k.fam f m N v (h.fam f m N v hv)⟩
theorem OStep.refl (hd : ∀ b x, own b = some x → b < w.heap.size) : OStep pat own w own w row := ⟨rfl, rfl, rfl, Nat.le_refl _, fun _ _ => rfl, hd, fun _ _ _ _ => rfl, fun _ _ _ _ h => h⟩
theorem OStep.anyRow (h : OStep pat own w own' w' none) : OStep pat own w own' w' row := ⟨h.os, h.tape, h.output, h.size, h.old, h.dom, fun b hb h0 _ => h.kept b hb h0 (by simp), h.fam⟩
/-- New blocks, one row of nobody's written. -/
theorem OStep.grown (hd : ∀ b x, own b = some x → b < w.heap.size) (hg : w.grownBy w' row) (hr : ∀ k, row = some k → own k = none) : OStep pat own w own w' row :=
  ⟨hg.os, hg.tape, hg.output, hg.size, fun _ _ => rfl, fun b x h => Nat.lt_of_lt_of_le (hd b x h) hg.size, fun b hb _ hne => hg.block b hb hne,
    fun f m N v hv => hv.heap fun b x h => ⟨h, hg.block b (hd b x h) fun e => by rw [hr b e.symm] at h; cases h⟩⟩
theorem OStep.below {B : Nat} (h : OStep pat own w own' w' none) (hB : B ≤ w.heap.size) (hn : ∀ b, b < B → own b = none) : Below B w w' :=
  ⟨h.os, h.tape, h.output, h.size, fun b hb => h.kept b (by omega) (hn b hb) (by simp)⟩
theorem grown_alloc (w : World) (o : Obj) : w.grownBy (w.alloc o) none := ⟨rfl, rfl, rfl, by simp, fun k hk _ => Below.heap_alloc w o k hk⟩
theorem grown_drew_alloc (w : World) (o : Obj) : w.grownBy (w.drew.alloc o) none := ⟨rfl, rfl, rfl, by simp, fun k hk _ => Below.heap_alloc w.drew o k hk⟩
theorem grown_drew (w : World) : w.grownBy w.drew none := ⟨rfl, rfl, rfl, Nat.le_refl _, fun _ _ _ => rfl⟩
theorem setCells_grown (b : Nat) : ∀ (vs : List Value) (o : Nat) (w : World), w.grownBy (w.setCells b o vs) (some b)
  | [], _, w => ⟨rfl, rfl, rfl, Nat.le_refl _, fun _ _ _ => rfl⟩
  | v :: vs, o, w => by
    have h := setCells_grown b vs (o + 1) (w.setCell ⟨b, o, none⟩ v)
    have hz : (w.setCell ⟨b, o, none⟩ v).heap.size = w.heap.size := by simp [World.setCell]
    exact ⟨h.os, h.tape, h.output, by have := h.size; rw [hz] at this; exact this, fun k hk hne => (h.block k (by omega) hne).trans (Below.heap_setCell w ⟨b, o, none⟩ v k (fun e => hne (by rw [e])))⟩
/-- A mark is written. -/
theorem OStep.write (hd : ∀ b x, own b = some x → b < w.heap.size) {f : F} {b off k c : Nat} (hb : own b = some (f, off)) (ht : w.there b off (c * (pat f).length)) (hk : k < c) :
    OStep pat own w own (w.setCells b (off + k * (pat f).length) (pat f)) none := by
  have hg := setCells_grown b (pat f) (off + k * (pat f).length) w
  exact ⟨hg.os, hg.tape, hg.output, hg.size, fun _ _ => rfl, fun b' x h => Nat.lt_of_lt_of_le (hd b' x h) hg.size,
    fun b' hb' h0 _ => hg.block b' hb' (fun e => by cases e; rw [hb] at h0; cases h0), fun f' m N v hv => hv.write hb ht hk⟩
end
section
variable {F : Type} {pat : F → List Value} {own : OwnF F} {P : Program}
def reps (n : Nat) (l : List Value) : List Value := (List.replicate n l).flatten
theorem reps_length (l : List Value) : ∀ n, (reps n l).length = n * l.length
  | 0 => by simp [reps]
  | n + 1 => by
    have := reps_length l n
    unfold reps at this ⊢
    rw [List.replicate_succ, List.flatten_cons, List.length_append, this, Nat.add_mul]; omega
theorem reps_snoc (n : Nat) (l : List Value) : reps n l ++ l = reps (n + 1) l := by
  unfold reps
  rw [List.replicate_succ', List.flatten_append]; simp
theorem reps_get {l : List Value} {j : Nat} (hj : j < l.length) : ∀ {n k : Nat}, k < n → (reps n l)[k * l.length + j]? = l[j]?
  | 0, k, h => by omega
  | n + 1, 0, _ => by
    unfold reps
    rw [List.replicate_succ, List.flatten_cons, Nat.zero_mul, Nat.zero_add, List.getElem?_append_left hj]
  | n + 1, k + 1, h => by
    have := reps_get hj (n := n) (k := k) (by omega)
    unfold reps at this ⊢
    rw [List.replicate_succ, List.flatten_cons, List.getElem?_append_right (by rw [Nat.add_mul]; omega), ← this]
    congr 1
    rw [Nat.add_mul]; omega
theorem reps_out {l : List Value} (h0 : 0 < l.length) {n j : Nat} {u : Value} (h : (reps n l)[j]? = some u) : ∃ k i, j = k * l.length + i ∧ k < n ∧ l[i]? = some u := by
  have hj := (List.getElem?_eq_some_iff.1 h).1
  rw [reps_length] at hj
  have hi : j % l.length < l.length := Nat.mod_lt _ h0
  have hk : j / l.length < n := (Nat.div_lt_iff_lt_mul h0).2 hj
  have e : j = j / l.length * l.length + j % l.length := by rw [Nat.mul_comm]; exact (Nat.div_add_mod j l.length).symm
  refine ⟨j / l.length, j % l.length, e, hk, ?_⟩
  rw [← reps_get hi hk, ← e]; exact h
/-- A row that has moved to a new block. -/
theorem fam_new {w w' : World} {f : F} {n N : Nat} {v' : Value} {e : TypeId} (h0 : 0 < (pat f).length) (hd : ∀ b x, own b = some x → b < w.heap.size) (hg : w.grownBy w' none)
    (ho : w'.ownsRow w.heap.size e (pat f).length v' (n + 1) (reps n (pat f) ++ pat f)) (hn : n + 1 ≤ N) :
    ∃ own', OStep pat own w own' w' none ∧ Fam pat own' w' f N N v' ∧ ∃ g c, v' = .slice (some ⟨g, 0, none⟩) (n + 1) c := by
  rcases ho.2 with ⟨_, h⟩ | ⟨g, cap, cur, rfl, hbg, hgc, hnc, _, hcs, htk⟩
  · omega
  · have hgs : g < w'.heap.size := (Array.getElem?_eq_some_iff.1 hgc).1
    refine ⟨fun b => if b = g then some (f, 0) else own b, ⟨hg.os, hg.tape, hg.output, hg.size, fun b hb => if_neg (by omega), fun b x h => ?_, fun b hb _ _ => hg.block b hb (by simp), fun f' m N v hv => hv.heap fun b x h => ?_⟩, ?_, g, cap, rfl⟩
    · by_cases hb : b = g
      · omega
      · rw [if_neg hb] at h; exact Nat.lt_of_lt_of_le (hd b x h) hg.size
    · have := hd b x h
      exact ⟨by rw [if_neg (by omega)]; exact h, hg.block b this (by simp)⟩
    · refine .inr ⟨g, 0, n + 1, cap, rfl, if_pos rfl, hnc, hn, fun j hj => ⟨?_, ?_⟩, fun k _ hk j x hx => ?_⟩
      · unfold World.cell?
        rw [hgc]
        simp
        omega
      · unfold World.frozen?
        rw [hgc]
        simp
      · have hj := (List.getElem?_eq_some_iff.1 hx).1
        rw [reps_snoc] at htk
        have h1 := reps_get hj hk
        rw [← htk, List.getElem?_take_of_lt (place_lt hj hk), Array.getElem?_toList, hx] at h1
        unfold World.cell?
        rw [hgc]
        simpa using h1
/-- THE LAW: a slice of a family grows by one of its marks. -/
theorem run_append_fam (w : World) (t ty e : TypeId) (i : TypeInfo) (z : Value) (size bytes : Nat) (ht : P.underlying t = some (.slice e)) (hi : P.info? e = some i) (hz : i.zero = some z)
    (hsize : i.size = size) (hby : i.bytes = bytes) (hzs : z.cells.size = size) (hsz : 0 < size) (f : F) (hp : (pat f).length = size) (h1 : ∀ u ∈ pat f, u.oneCell' = true)
    (hd : ∀ b x, own b = some x → b < w.heap.size) {N : Nat} {v : Value} (hv : Fam pat own w f N N v) (hN : N + 1 ≤ maxLen) (hNb : (N + 1) * bytes ≤ 140737488355328)
    (a : Addr) (hnews : ∀ j u, (pat f)[j]? = some u → w.cell? (a.add j) = some u) :
    ∃ v' w' own', (Builtin.append_ #[t, t] ty #[v, .slice (some a) 1 1]).run P w = .ok v' w' ∧ OStep pat own w own' w' none ∧ Fam pat own' w' f (N + 1) (N + 1) v' ∧ ∃ g off n c, v' = .slice (some ⟨g, off, none⟩) (n + 1) c := by
  subst hsize
  have hp0 : 0 < (pat f).length := by omega
  rcases hv with rfl | ⟨b, off, n, c, rfl, hb, hnc, hnN, hth, hm⟩
  · obtain ⟨v', w', hr, h2, h3, _⟩ := run_append_own_at (P := P) w w.heap.size t ty e i z i.size bytes ht hi hz rfl hby hzs hsz (.slice none 0 0) 0 [] (World.ownsRow_nil w _ e i.size) a 1 1 (pat f) (by omega) hnews h1 (by omega) (by have := Nat.mul_le_mul_right bytes (show 0 + 1 ≤ N + 1 by omega); omega) (Nat.le_refl _)
    rw [← hp] at h2
    obtain ⟨own', s1, s2, g, c, s3⟩ := fam_new (n := 0) (N := N + 1) hp0 hd h3 (by simpa [reps] using h2) (by omega)
    exact ⟨v', w', own', hr, s1, s2, g, 0, 0, c, s3⟩
  · by_cases hroom : n + 1 ≤ c
    · have hth1 : w.there b (off + n * (pat f).length) (pat f).length := there_at hth (by omega)
      have hr := run_append_room_cells (P := P) w t ty e i ht hi b off n c a 1 1 (pat f) (by omega) hnews h1 hroom (fun j hj => by rw [← hp]; exact (hth1 j hj).1) (fun j hj => by rw [← hp]; exact (hth1 j hj).2)
      rw [← hp] at hr
      refine ⟨_, _, own, hr, OStep.write hd hb hth (by omega), ?_, b, off, n, c, rfl⟩
      refine .inr ⟨b, off, n + 1, c, rfl, hb, hroom, by omega, World.there_setCells hth _ _ _, fun k _ hk j x hx => ?_⟩
      have hj := (List.getElem?_eq_some_iff.1 hx).1
      by_cases e : k = n
      · subst e; exact setCells_in hth1 hx
      · rw [World.cell?_setCells_out]
        · exact hm k (by omega) (by omega) j x hx
        · intro _ _
          have := place_lt hj (show k < n by omega)
          exact .inl (by show off + k * (pat f).length + j < off + n * (pat f).length; omega)
    · obtain ⟨v', w', hr, h2, h3⟩ := run_append_arg_grows (P := P) w t ty e i z i.size bytes ht hi hz rfl hby hzs hsz ⟨b, off, none⟩ n c (reps n (pat f)) (by rw [reps_length, hp]) (fun j u hj => by
          obtain ⟨k, i', rfl, hk, hx⟩ := reps_out hp0 hj
          rw [Addr.add_mid, ← Nat.add_assoc]
          exact hm k (by omega) hk i' u hx) a 1 1 (pat f) (by omega) hnews (by omega) (by omega) (by have := Nat.mul_le_mul_right bytes (show n + 1 ≤ N + 1 by omega); omega)
      rw [← hp] at h2
      obtain ⟨own', s1, s2, g, c, s3⟩ := fam_new (n := n) (N := N + 1) hp0 hd h3 h2 (by omega)
      exact ⟨v', w', own', hr, s1, s2, g, 0, n, c, s3⟩
end
section
variable {F : Type} {pat : F → List Value} {own : OwnF F} {P : Program}
/-- For the walk: the append of a mark, built just ahead of it in a new block. -/
theorem wpList_append_fam (w : World) {ops : Array Oper} {rest : List Oper} {o : Oper} {a : Act} {Q : Exit → Act → World → Prop} (hgd : o.guard = none) (s x : Operand) (t : TypeId)
    (ho : o.op = .call { callee := .builtin .append, args := #[s, x], argTypes := #[t, t] }) (e : TypeId) (i : TypeInfo) (z : Value) (size bytes : Nat) (ht : P.underlying t = some (.slice e)) (hi : P.info? e = some i) (hz : i.zero = some z)
    (hsize : i.size = size) (hby : i.bytes = bytes) (hzs : z.cells.size = size) (hsz : 0 < size) (f : F) (hp : (pat f).length = size) (h1 : ∀ u ∈ pat f, u.oneCell' = true)
    (hd : ∀ b x, own b = some x → b < w.heap.size) (N : Nat) (v : Value) (hs : a.eval s = v) (hv : Fam pat own w f N N v) (hN : N + 1 ≤ maxLen) (hNb : (N + 1) * bytes ≤ 140737488355328)
    (ad : Addr) (hx : a.eval x = .slice (some ad) 1 1) (hnews : ∀ j u, (pat f)[j]? = some u → w.cell? (ad.add j) = some u)
    (h : ∀ v' w' own', OStep pat own w own' w' none → Fam pat own' w' f (N + 1) (N + 1) v' → (∃ g off n c, v' = .slice (some ⟨g, off, none⟩) (n + 1) c) → wpList P ops Q rest (a.put o.dst v') w') :
    wpList P ops Q (o :: rest) a w := by
  refine wpList_plain hgd fun K hK => ?_
  obtain ⟨v', w', own', hr, h2, h3, h4⟩ := run_append_fam (P := P) w t o.type e i z size bytes ht hi hz hsize hby hzs hsz f hp h1 hd hv hN hNb ad hnews
  unfold Oper.wp execOp
  simp only [ho, resolve, invoke, builtin, Sem.run_bind, Sem.run_pure, Result.andThen_ok, List.map_toArray, List.map_cons, List.map_nil, hs, hx, hr]
  exact hK _ _ (h v' w' own' h2 h3 h4)
/-- A list of slices, to be read; its block is nobody's and lies below B. -/
def RowR (B : Nat) (own : OwnF F) (w : World) (v : Value) (xs : List Value) : Prop :=
  ∃ p c, v = .slice p xs.length c ∧ ∀ t x, xs[t]? = some x → ∃ kb, p = some ⟨kb, 0, none⟩ ∧ kb < B ∧ own kb = none ∧ w.cell? ⟨kb, t, none⟩ = some x
theorem RowR.step {B : Nat} {own own' : OwnF F} {w w' : World} {row : Option Nat} {v : Value} {xs : List Value} (h : RowR B own w v xs) (k : OStep pat own w own' w' row) (hB : B ≤ w.heap.size) (hr : ∀ r, row = some r → B ≤ r) : RowR B own' w' v xs := by
  obtain ⟨p, c, h1, h2⟩ := h
  refine ⟨p, c, h1, fun t x hx => ?_⟩
  obtain ⟨kb, e, hlt, ho, hc⟩ := h2 t x hx
  have hl : kb < w.heap.size := by omega
  exact ⟨kb, e, hlt, (k.old kb hl).trans ho, (World.cell?_of_block (a := ⟨kb, t, none⟩) (k.kept kb hl ho (fun e => by have := hr kb e.symm; omega))).trans hc⟩
theorem RowR.raise {B B' : Nat} {own : OwnF F} {w : World} {v : Value} {xs : List Value} (h : RowR B own w v xs) (hB : B ≤ B') : RowR B' own w v xs := by
  obtain ⟨p, c, h1, h2⟩ := h
  refine ⟨p, c, h1, fun t x hx => ?_⟩
  obtain ⟨kb, e, hlt, ho, hc⟩ := h2 t x hx
  exact ⟨kb, e, by omega, ho, hc⟩
/-- A row that was grown is read. -/
theorem RowR.of_row {B : Nat} {own : OwnF F} {w : World} {e : TypeId} {v : Value} {xs : List Value} (h : w.ownsRow B e 1 v xs.length xs) (hn : ∀ b, v.ownBlock = some b → own b = none) : RowR w.heap.size own w v xs := by
  rcases h.2 with ⟨rfl, h0⟩ | ⟨g, cap, cur, rfl, _, hg, _, _, _, htk⟩
  · exact ⟨none, 0, by rw [h0], fun t x hx => by rw [List.eq_nil_of_length_eq_zero h0] at hx; simp at hx⟩
  · refine ⟨_, cap, rfl, fun t x hx => ⟨g, rfl, (Array.getElem?_eq_some_iff.1 hg).1, hn g rfl, ?_⟩⟩
    exact (World.ownsRow.cellAt h t (by have := (List.getElem?_eq_some_iff.1 hx).1; omega)).trans hx
theorem OStep.transRow {own own' own'' : OwnF F} {w w' w'' : World} {row : Option Nat} (h : OStep pat own w own' w' none) (k : OStep pat own' w' own'' w'' row) (hr : ∀ r, row = some r → w.heap.size ≤ r) : OStep pat own w own'' w'' none :=
  ⟨k.os.trans h.os, k.tape.trans h.tape, k.output.trans h.output, Nat.le_trans h.size k.size, fun b hb => (k.old b (Nat.lt_of_lt_of_le hb h.size)).trans (h.old b hb), k.dom,
    fun b hb h0 _ => (k.kept b (Nat.lt_of_lt_of_le hb h.size) ((h.old b hb).trans h0) (fun e => by have := hr b e.symm; omega)).trans (h.kept b hb h0 (by simp)), fun f m N v hv => k.fam f m N v (h.fam f m N v hv)⟩
theorem Fam.full {w : World} {f : F} {m m' N : Nat} {p : Option Addr} {n c : Nat} (h : Fam pat own w f m N (.slice p n c)) (hm : n ≤ m) : Fam pat own w f m' N (.slice p n c) := by
  rcases h with h | ⟨b, off, n', c', h1, h2, h3, h4, h5, h6⟩
  · exact .inl h
  · cases h1
    exact .inr ⟨b, off, n, c, rfl, h2, h3, h4, h5, fun k _ hn => h6 k (by omega) hn⟩
theorem Fam.to {w : World} {f : F} {m N N' : Nat} {v : Value} (h : Fam pat own w f m N v) (hm : N ≤ m) (hN : N ≤ N') (m' : Nat) : Fam pat own w f m' N' v := by
  rcases h with h | ⟨b, off, n', c', h1, h2, h3, h4, h5, h6⟩
  · exact .inl h
  · exact .inr ⟨b, off, n', c', h1, h2, h3, by omega, h5, fun k _ hn => h6 k (by omega) hn⟩
theorem Fam.shape {w : World} {f : F} {m N : Nat} {v : Value} (h : Fam pat own w f m N v) : ∃ p n c, v = .slice p n c ∧ n ≤ N ∧ (0 < n → ∃ b off, p = some ⟨b, off, none⟩ ∧ own b = some (f, off) ∧ n ≤ c ∧ w.there b off (c * (pat f).length) ∧ ∀ k, k < m → k < n → ∀ j x, (pat f)[j]? = some x → w.cell? ⟨b, off + k * (pat f).length + j, none⟩ = some x) := by
  rcases h with h | ⟨b, off, n', c', h1, h2, h3, h4, h5, h6⟩
  · exact ⟨none, 0, 0, h, Nat.zero_le _, fun h => by omega⟩
  · exact ⟨_, n', c', h1, h4, fun _ => ⟨b, off, rfl, h2, h3, h5, h6⟩⟩
end
/-- The owner of rows that lie apart. -/
theorem own_of {F : Type} (pat : F → List Value) (w : World) (L : F → Option Value) (ha : ∀ f g v u b, L f = some v → L g = some u → v.ownBlock = some b → u.ownBlock = some b → f = g)
    (hr : ∀ f v, L f = some v → v = .slice none 0 0 ∨ ∃ b off n c, v = .slice (some ⟨b, off, none⟩) n c ∧ b < w.heap.size ∧ n ≤ c ∧ w.there b off (c * (pat f).length)) :
    ∃ own : OwnF F, (∀ b x, own b = some x → b < w.heap.size ∧ ∃ v, L x.1 = some v ∧ v.ownBlock = some b) ∧ ∀ f v N, L f = some v → (∀ p n c, v = .slice p n c → n ≤ N) → Fam pat own w f 0 N v := by
  classical
  let own : OwnF F := fun b => if h : ∃ x : F × Nat, ∃ n c, L x.1 = some (.slice (some ⟨b, x.2, none⟩) n c) then some (Classical.choose h) else none
  have hown : ∀ f b off n c, L f = some (.slice (some ⟨b, off, none⟩) n c) → own b = some (f, off) := by
    intro f b off n c hL
    have hex : ∃ x : F × Nat, ∃ n c, L x.1 = some (.slice (some ⟨b, x.2, none⟩) n c) := ⟨(f, off), n, c, hL⟩
    show (if h : _ then _ else _) = _
    rw [dif_pos hex]
    obtain ⟨n', c', h'⟩ := Classical.choose_spec hex
    have e : (Classical.choose hex).1 = f := ha _ _ _ _ b h' hL rfl rfl
    rw [e, hL] at h'
    simp only [Option.some.injEq, Value.slice.injEq, Addr.mk.injEq, true_and, and_true] at h'
    exact congrArg some (Prod.ext e h'.1.symm)
  refine ⟨own, fun b x hx => ?_, fun f v N hL hN => ?_⟩
  · have hx' : (if h : ∃ x : F × Nat, ∃ n c, L x.1 = some (.slice (some ⟨b, x.2, none⟩) n c) then some (Classical.choose h) else none) = some x := hx
    by_cases hex : ∃ x : F × Nat, ∃ n c, L x.1 = some (.slice (some ⟨b, x.2, none⟩) n c)
    · rw [dif_pos hex] at hx'
      obtain ⟨n', c', h'⟩ := Classical.choose_spec hex
      rw [Option.some.inj hx'] at h'
      refine ⟨?_, _, h', rfl⟩
      rcases hr _ _ h' with h | ⟨b', off, n, c, h, hb, _⟩
      · cases h
      · cases h; exact hb
    · rw [dif_neg hex] at hx'; cases hx'
  · rcases hr f v hL with h | ⟨b, off, n, c, rfl, hb, hnc, hth⟩
    · exact .inl h
    · exact .inr ⟨b, off, n, c, rfl, hown f b off n c hL, hnc, hN _ _ _ rfl, hth, fun k hk => by omega⟩
end Go.Proofs.Nu
