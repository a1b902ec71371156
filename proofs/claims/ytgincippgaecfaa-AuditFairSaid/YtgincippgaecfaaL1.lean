/-
  lent: a history in memory of its own, with two marked entries behind it. No condition but the reach.
-/
import Derived.Test.YtgincippgaecfaaH4
import Derived.Maps.AppendAt
import Derived.Laws.AppendOwnNone
namespace Go.Proofs.Ytgincippgaecfaa.Au
open Go Go.RowKit

def Ent.cells (e : Ent) : List Value := [.int .i64 e.kind, .int .i64 e.who, .string e.queue, .int .i64 e.msg, .int .i64 e.count, .bool e.dur]
def cellsOf (es : List Ent) : List Value := es.flatMap Ent.cells
def mark (k : Int) : Ent := ⟨k, 0, ⟨#[]⟩, 0, 0, false⟩

theorem cellsOf_length (es : List Ent) : (cellsOf es).length = es.length * 6 := by
  induction es with
  | nil => rfl
  | cons e es ih => simp only [cellsOf, List.flatMap_cons, List.length_append, List.length_cons] at ih ⊢; rw [ih]; simp [Ent.cells]; omega
theorem cellsOf_append (es fs : List Ent) : cellsOf (es ++ fs) = cellsOf es ++ cellsOf fs := by simp [cellsOf]
theorem cellsOf_one (es : List Ent) : ∀ u ∈ cellsOf es, u.oneCell' = true := by
  intro u hu
  obtain ⟨e, _, he⟩ := List.mem_flatMap.1 hu
  simp [Ent.cells] at he
  rcases he with rfl | rfl | rfl | rfl | rfl | rfl <;> rfl

/-- The entries lie from place o of block b on. -/
def AllAt (w : World) (b o : Nat) (es : List Ent) : Prop := ∀ i e, es[i]? = some e → EntAt w b (o + i * 6) e

theorem AllAt.tail {w : World} {b o : Nat} {e : Ent} {es : List Ent} (h : AllAt w b o (e :: es)) : AllAt w b (o + 6) es := fun i x hx => by
  have := h (i + 1) x (by simpa using hx)
  rwa [show o + (i + 1) * 6 = o + 6 + i * 6 by omega] at this

theorem AllAt.cells {w : World} {b : Nat} : ∀ {es : List Ent} {o : Nat}, AllAt w b o es → ∀ j u, (cellsOf es)[j]? = some u → w.cell? ⟨b, o + j, none⟩ = some u
  | [], _, _, j, u, hu => by simp [cellsOf] at hu
  | e :: es, o, h, j, u, hu => by
    have h0 := h 0 e rfl
    simp only [Nat.zero_mul, Nat.add_zero] at h0
    simp only [cellsOf, List.flatMap_cons] at hu
    rcases Nat.lt_or_ge j 6 with hj | hj
    · rw [List.getElem?_append_left (by simpa [Ent.cells] using hj)] at hu
      match j, hj, hu with
      | 0, _, hu => simp [Ent.cells] at hu; subst hu; exact h0.kind
      | 1, _, hu => simp [Ent.cells] at hu; subst hu; exact h0.who
      | 2, _, hu => simp [Ent.cells] at hu; subst hu; exact h0.queue
      | 3, _, hu => simp [Ent.cells] at hu; subst hu; exact h0.msg
      | 4, _, hu => simp [Ent.cells] at hu; subst hu; exact h0.count
      | 5, _, hu => simp [Ent.cells] at hu; subst hu; exact h0.dur
    · rw [List.getElem?_append_right (by simpa [Ent.cells] using hj)] at hu
      have := AllAt.cells h.tail (j - 6) u (by simpa [Ent.cells, cellsOf] using hu)
      rwa [show o + 6 + (j - 6) = o + j by omega] at this

theorem AllAt.of_cells {w : World} {b : Nat} : ∀ {es : List Ent} {o : Nat}, (∀ j u, (cellsOf es)[j]? = some u → w.cell? ⟨b, o + j, none⟩ = some u) → AllAt w b o es
  | [], _, _, i, e, he => by simp at he
  | e :: es, o, h, 0, x, hx => by
    simp only [List.getElem?_cons_zero, Option.some.injEq] at hx
    subst hx
    simp only [Nat.zero_mul, Nat.add_zero]
    have k : ∀ j u, e.cells[j]? = some u → w.cell? ⟨b, o + j, none⟩ = some u := fun j u hu => h j u (by
      simp only [cellsOf, List.flatMap_cons]
      rw [List.getElem?_append_left (List.getElem?_eq_some_iff.1 hu).1]
      exact hu)
    exact ⟨k 0 _ rfl, k 1 _ rfl, k 2 _ rfl, k 3 _ rfl, k 4 _ rfl, k 5 _ rfl⟩
  | e :: es, o, h, i + 1, x, hx => by
    have := AllAt.of_cells (w := w) (b := b) (es := es) (o := o + 6) (fun j u hu => by
      have := h (j + 6) u (by
        simp only [cellsOf, List.flatMap_cons]
        rw [List.getElem?_append_right (by simp [Ent.cells])]
        simpa [Ent.cells, cellsOf] using hu)
      rwa [show o + (j + 6) = o + 6 + j by omega] at this) i x (by simpa using hx)
    rwa [show o + 6 + i * 6 = o + (i + 1) * 6 by omega] at this

theorem info55 : (Try.prog.info? 55).map (fun i => (i.zero, i.size, i.bytes)) = some (some (.agg #[.int .i64 0, .int .i64 0, .string ⟨#[]⟩, .int .i64 0, .int .i64 0, .bool false]), 6, 56) := by kernel_rfl

theorem add_off (b off j : Nat) : (⟨b, off, none⟩ : Addr).add j = ⟨b, off + j, none⟩ := by
  unfold Addr.add
  split
  · rename_i h; subst h; rfl
  · rfl
theorem cells_new (w : World) (l : List Value) (t : TypeId) : ∀ j u, l[j]? = some u → (w.alloc (.cells l.toArray t)).cell? ((⟨w.heap.size, 0, none⟩ : Addr).add j) = some u := by
  intro j u hu
  have := cell_of_row (w.alloc (.cells l.toArray t)) w.heap.size j l.toArray t (0, 0) (heap_alloc_new w _)
  rw [add_off, Nat.zero_add, this]
  rw [← hu]
  simp

/-- WHAT lent HANDS BACK: the history in a row of its own, two marks behind it. -/
def Lent (w0 : World) (es : List Ent) (r : Ending) (w' : World) : Prop :=
  ∃ g cap, r = .returned (.slice (some ⟨g, 0, none⟩) es.length cap) ∧
    w'.ownsRow w0.heap.size 55 6 (.slice (some ⟨g, 0, none⟩) (es.length + 2) cap) (es.length + 2) (cellsOf (es ++ [mark (-1), mark (-2)])) ∧ Below w0.heap.size w0 w'

set_option maxRecDepth 100000 in
set_option maxHeartbeats 1000000 in
theorem lent_some (ad : Addr) (cap : Nat) (es : List Ent) (w : World) (hreach : es.length * 56 ≤ 140737488351232) (hc : ∀ j u, (cellsOf es)[j]? = some u → w.cell? (ad.add j) = some u) :
    Calls Try.prog 9 #[.slice (some ad) es.length cap] w (Lent w es) := by
  obtain ⟨i0, hi0, hz0, hz1, hz2⟩ := info_parts info55
  go_enter Try.func9, Try.ntmps9
  go_wp2_with (at_builtin; go_must (refine wpList_append_own _ rfl (.const (.slice none 0 0)) (.tmp 7) _ rfl w.heap.size 55 i0 _ 6 56 Try.underlying23 hi0 hz0 hz1 hz2 rfl (by decide) _ _ _ rfl (World.ownsRow_nil _ _ _ _) ad es.length cap (cellsOf es) rfl (cellsOf_length es) ?_ (cellsOf_one es) ?_ ?_ (Nat.le_refl _) ?_))
  · exact hc
  · simp [maxLen]; omega
  · omega
  intro v1 w1 hown1 hgr1 _
  have hb1 : Below w.heap.size w w1 := (Below.refl _ _).grown hgr1 (Nat.le_refl _) (by simp [Value.ownBlock])
  clear hc
  go_wp2_with (at_builtin; go_must (refine wpList_append_own _ rfl (.tmp 8) (.tmp 11) _ rfl w.heap.size 55 i0 _ 6 56 Try.underlying23 hi0 hz0 hz1 hz2 rfl (by decide) v1 es.length (cellsOf es) rfl (hown1.alloc _) ⟨w1.heap.size, 0, none⟩ 2 2 (cellsOf [mark (-1), mark (-2)]) rfl (cellsOf_length _) ?_ (cellsOf_one _) ?_ ?_ ?_ ?_))
  · exact cells_new w1 (cellsOf [mark (-1), mark (-2)]) 55
  · simp [maxLen]; omega
  · omega
  · have := hb1.size; simp; omega
  intro v2 w2 hown2 hgr2 _
  have hb2 : Below w.heap.size w w2 := by
    refine (hb1.alloc hb1.size _).grown hgr2 (by have := hb1.size; simp; omega) ?_
    intro k hk
    rcases hown1.2 with ⟨rfl, _⟩ | ⟨g, c, cur, rfl, hg, _⟩
    · simp [Value.ownBlock] at hk
    · simp [Value.ownBlock] at hk; omega
  rcases hown2.2 with ⟨_, h0⟩ | ⟨g, c, cur, rfl, hg, hh, hle, hmx, hsz, htk⟩
  · omega
  rw [← cellsOf_append] at hown2
  have HO := Lib.hid hown2
  clear hown2 hown1 hgr1 hgr2 hb1 hh hsz htk
  unfold maxLen at hmx
  go_wp2
  go_ret
  exact ⟨g, c, rfl, HO.out, hb2⟩

set_option maxHeartbeats 1000000 in
theorem lent_nil (c : Nat) (w : World) : Calls Try.prog 9 #[.slice none 0 c] w (Lent w []) := by
  obtain ⟨i0, hi0, hz0, hz1, hz2⟩ := info_parts info55
  go_enter Try.func9, Try.ntmps9
  go_wp2_with (first
    | (at_builtin; refine wpList_append_own_none rfl (.const (.slice none 0 0)) (.tmp 7) _ rfl w.heap.size 55 i0 6 Try.underlying23 hi0 _ _ _ rfl (World.ownsRow_nil _ _ _ _) rfl ?_)
    | (at_builtin; refine wpList_append_own _ rfl (.tmp 8) (.tmp 11) _ rfl w.heap.size 55 i0 _ 6 56 Try.underlying23 hi0 hz0 hz1 hz2 rfl (by decide) _ _ _ rfl (World.ownsRow_nil _ _ _ _) ⟨w.heap.size, 0, none⟩ 2 2 (cellsOf [mark (-1), mark (-2)]) rfl (cellsOf_length _) ?_ (cellsOf_one _) ?_ ?_ ?_ ?_))
  · exact cells_new w (cellsOf [mark (-1), mark (-2)]) 55
  · simp [maxLen]
  · omega
  · simp
  intro v2 w2 hown2 hgr2 _
  have hb2 : Below w.heap.size w w2 := ((Below.refl _ _).alloc (Nat.le_refl _) _).grown hgr2 (by simp) (by simp [Value.ownBlock])
  rcases hown2.2 with ⟨_, h0⟩ | ⟨g, c, cur, rfl, hg, hh, hle, hmx, hsz, htk⟩
  · omega
  have HO := Lib.hid hown2
  clear hown2 hgr2 hh hsz htk
  unfold maxLen at hmx
  go_wp2
  go_ret
  exact ⟨g, c, rfl, HO.out, hb2⟩

theorem lent_any (n : Nat) (sv : Value) (es : List Ent) (w : World) (hreach : es.length * 56 ≤ 140737488351232) (h : HistAt n w sv es) : Calls Try.prog 9 #[sv] w (Lent w es) := by
  rcases h with ⟨p, c, rfl, rfl⟩ | ⟨b, off, cap, rfl, hb, hc⟩
  · cases p with
    | none => exact lent_nil c w
    | some ad => exact lent_some ad c [] w hreach (fun j u hu => by simp [cellsOf] at hu)
  · exact lent_some ⟨b, off, none⟩ cap es w hreach (fun j u hu => by rw [add_off]; exact AllAt.cells hc j u hu)

end Go.Proofs.Ytgincippgaecfaa.Au
