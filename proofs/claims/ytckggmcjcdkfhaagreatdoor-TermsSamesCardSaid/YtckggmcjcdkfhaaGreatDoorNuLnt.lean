/-
  NuLentA: Plain: values as their owner lends them: in blocks of their own, with marks behind each list. No condition.
  NuLentB: Plain: five cells written at once; how a lent list grows by one, and how its owner writes it over. No condition.
  NuLentC: Plain: the round of LentAll, and of AsLentAll. No condition.
  NuLentD: Plain: the round of AsLentAll. No condition.
-/
import Derived.Test.YtckggmcjcdkfhaaGreatDoorNuVal
import Derived.Laws.Rows
namespace Go.Proofs.Nu
open Go Go.RowKit

mutual
theorem wt_gt : ∀ (t : VT) (n : Nat), n < wt t n
  | .mk _ _ s _ l, n => by rw [wt]; exact Nat.lt_of_lt_of_le (by omega) (wts_ge l _)
theorem wts_ge : ∀ (ts : List VT) (n : Nat), n ≤ wts ts n
  | [], n => by rw [wts]; exact Nat.le_refl _
  | t :: ts, n => by
    rw [wts]
    split
    · exact Nat.le_trans (Nat.le_of_lt (wt_gt t n)) (wts_ge ts _)
    · exact Nat.le_refl _
end
/-- A list that is not great. -/
def Sms (ts : List VT) : Prop := ∃ n, wts ts n ≤ 100000
theorem wts_len : ∀ (ts : List VT) (n : Nat), wts ts n ≤ 100000 → n + ts.length ≤ 100000
  | [], n, h => by rw [wts] at h; simpa using h
  | t :: ts, n, h => by
    rw [wts] at h
    split at h
    · have := wts_len ts _ h
      have := wt_gt t n
      simp only [List.length_cons]
      omega
    · omega
theorem Sms.len {ts : List VT} (h : Sms ts) : ts.length ≤ 100000 := by
  obtain ⟨n, h⟩ := h
  have := wts_len ts n h
  omega
theorem Sms.child : ∀ {ts : List VT} {k : Nat} {t : VT}, Sms ts → ts[k]? = some t → Sms t.list
  | [], k, t, _, h => by simp at h
  | a :: ts, 0, t, ⟨n, h⟩, hk => by
    simp at hk
    subst hk
    rw [wts] at h
    split at h
    · have := wts_ge ts (wt a n)
      rw [wt_eq] at this h
      exact ⟨_, Nat.le_trans this h⟩
    · omega
  | a :: ts, k + 1, t, ⟨n, h⟩, hk => by
    simp at hk
    rw [wts] at h
    split at h
    · exact Sms.child ⟨_, h⟩ hk
    · omega
theorem Sms.one {t : VT} {n : Nat} (h : wt t n ≤ 100000) : Sms t.list := by
  rw [wt_eq] at h
  exact ⟨_, h⟩

/-- All blocks that lay are as they were, but for those from lo to hi. -/
structure Apart (lo hi : Nat) (w w' : World) : Prop where
  os : w'.os = w.os
  tape : w'.tape = w.tape
  output : w'.output = w.output
  size : w.heap.size ≤ w'.heap.size
  block : ∀ k, k < w.heap.size → (k < lo ∨ hi ≤ k) → w'.heap[k]? = w.heap[k]?
theorem Apart.refl (lo hi : Nat) (w : World) : Apart lo hi w w := ⟨rfl, rfl, rfl, Nat.le_refl _, fun _ _ _ => rfl⟩
theorem Apart.trans {lo hi : Nat} {a b c : World} (h : Apart lo hi a b) (k : Apart lo hi b c) : Apart lo hi a c :=
  ⟨k.os.trans h.os, k.tape.trans h.tape, k.output.trans h.output, Nat.le_trans h.size k.size, fun i hi' ho => (k.block i (Nat.lt_of_lt_of_le hi' h.size) ho).trans (h.block i hi' ho)⟩
theorem Apart.wide {lo hi lo' hi' : Nat} {a b : World} (h : Apart lo hi a b) (h1 : lo' ≤ lo) (h2 : hi ≤ hi') : Apart lo' hi' a b :=
  ⟨h.os, h.tape, h.output, h.size, fun i hi ho => h.block i hi (by omega)⟩
theorem Apart.of_below {B lo hi : Nat} {a b : World} (h : Below B a b) (hB : a.heap.size ≤ B) : Apart lo hi a b := ⟨h.os, h.tape, h.output, h.size, fun i hi _ => h.block i (by omega)⟩
theorem Apart.below {lo hi : Nat} {a b : World} (h : Apart lo hi a b) {B : Nat} (hB : B ≤ lo) (hs : B ≤ a.heap.size) : Below B a b := ⟨h.os, h.tape, h.output, h.size, fun i hi => h.block i (by omega) (by omega)⟩
theorem Apart.alloc {lo hi : Nat} {a w : World} (h : Apart lo hi a w) (o : Obj) : Apart lo hi a (w.alloc o) :=
  h.trans (Apart.of_below ((Below.refl _ _).alloc (Nat.le_refl _) _) (Nat.le_refl _))
theorem Apart.drew {lo hi : Nat} {a w : World} (h : Apart lo hi a w) : Apart lo hi a w.drew := ⟨h.os, h.tape, h.output, h.size, h.block⟩
theorem Apart.setCell {lo hi : Nat} {a w : World} (h : Apart lo hi a w) {p : Addr} (h1 : lo ≤ p.block) (h2 : p.block < hi) (u : Value) : Apart lo hi a (w.setCell p u) :=
  h.trans ⟨rfl, rfl, rfl, by simp [World.setCell], fun k hk ho => Below.heap_setCell _ _ _ _ (by omega)⟩
theorem Apart.setNew {lo hi : Nat} {a w : World} (h : Apart lo hi a w) {p : Addr} (h1 : a.heap.size ≤ p.block) (u : Value) : Apart lo hi a (w.setCell p u) :=
  ⟨h.os, h.tape, h.output, by simpa [World.setCell] using h.size, fun k hk ho => (Below.heap_setCell _ _ _ _ (by omega)).trans (h.block k hk ho)⟩
theorem Apart.cell {lo hi : Nat} {w w' : World} (h : Apart lo hi w w') {p : Addr} (hp : p.block < w.heap.size) (ho : p.block < lo ∨ hi ≤ p.block) : w'.cell? p = w.cell? p := World.cell?_of_block (w := w) (h.block p.block hp ho)
theorem Apart.frozen {lo hi : Nat} {w w' : World} (h : Apart lo hi w w') {p : Addr} (hp : p.block < w.heap.size) (ho : p.block < lo ∨ hi ≤ p.block) : w'.frozen? p = w.frozen? p := World.frozen?_of_block (w := w) (h.block p.block hp ho)

/-- One behind the other, each in blocks of its own. -/
def Chain {α : Type} (E : Nat → Nat → Nat → α → Prop) : Nat → Nat → Nat → List α → Prop
  | _, lo, hi, [] => lo = hi
  | i, lo, hi, t :: ts => ∃ mid, E i lo mid t ∧ Chain E (i + 1) mid hi ts
theorem Chain.snoc {α : Type} {E : Nat → Nat → Nat → α → Prop} {t : α} {hi : Nat} : ∀ {ts : List α} {i lo mid : Nat}, Chain E i lo mid ts → E (i + ts.length) mid hi t → Chain E i lo hi (ts ++ [t])
  | [], i, lo, mid, h, he => by
    obtain rfl : lo = mid := h
    exact ⟨hi, he, rfl⟩
  | a :: ts, i, lo, mid, ⟨m, h1, h2⟩, he => ⟨m, h1, Chain.snoc h2 (by rw [show i + 1 + ts.length = i + (a :: ts).length by simp; omega]; exact he)⟩
theorem Chain.imp {α : Type} {E F : Nat → Nat → Nat → α → Prop} (hE : ∀ i lo hi t, E i lo hi t → lo ≤ hi) : ∀ {ts : List α} {i lo hi : Nat}, Chain E i lo hi ts → (∀ j l h t, lo ≤ l → h ≤ hi → E j l h t → F j l h t) → Chain F i lo hi ts ∧ lo ≤ hi
  | [], i, lo, hi, h, _ => ⟨h, Nat.le_of_eq h⟩
  | a :: ts, i, lo, hi, ⟨m, h1, h2⟩, hf => by
    have hlm := hE _ _ _ _ h1
    obtain ⟨h3, h4⟩ := Chain.imp hE h2 fun j l h t hl hh => hf j l h t (by omega) hh
    exact ⟨⟨m, hf _ _ _ _ (Nat.le_refl _) h4 h1, h3⟩, by omega⟩
theorem Chain.at_ {α : Type} {E : Nat → Nat → Nat → α → Prop} (hE : ∀ i lo hi t, E i lo hi t → lo ≤ hi) : ∀ {ts : List α} {i lo hi : Nat}, Chain E i lo hi ts → ∀ {k : Nat} {t : α}, ts[k]? = some t → ∃ l h, lo ≤ l ∧ h ≤ hi ∧ E (i + k) l h t
  | [], i, lo, hi, h, k, t, hk => by simp at hk
  | a :: ts, i, lo, hi, ⟨m, h1, h2⟩, 0, t, hk => by
    simp at hk
    subst hk
    exact ⟨lo, m, Nat.le_refl _, (Chain.imp hE h2 fun _ _ _ _ _ _ h => h).2, h1⟩
  | a :: ts, i, lo, hi, ⟨m, h1, h2⟩, k + 1, t, hk => by
    obtain ⟨l, h, h3, h4, h5⟩ := Chain.at_ hE h2 (k := k) (t := t) (by simpa using hk)
    have := hE _ _ _ _ h1
    exact ⟨l, h, by omega, h4, by rw [show i + (k + 1) = i + 1 + k by omega]; exact h5⟩

/-- The mark behind a list. -/
def markT (i : Nat) : VT := .mk (-7) i ⟨#[]⟩ 0 []
/-- A lent list: its own block, then its parts' blocks, in [lo, hi). -/
def LentAt (w : World) : Nat → Nat → Nat → Value → List VT → Prop
  | 0, _, _, _, _ => False
  | n + 1, lo, hi, v, ts => ∃ b m, v = .slice (some ⟨b, 0, none⟩) ts.length (ts.length + 3) ∧ lo ≤ b ∧ b < m ∧ ts.length ≤ 100000 ∧
      (∀ j, w.frozen? ⟨b, j, none⟩ = false) ∧ (∀ k, k < 3 → At5 w b ((ts.length + k) * 5) (markT (ts.length + k)) (.slice none 0 0)) ∧
      Chain (fun i l h t => l ≤ h ∧ t.Fine ∧ ∃ lv, At5 w b (i * 5) t lv ∧ LentAt w n l h lv t.list) 0 m hi ts
theorem LentAt.le {w : World} : ∀ {n lo hi : Nat} {v : Value} {ts : List VT}, LentAt w n lo hi v ts → lo < hi
  | 0, _, _, _, _, h => h.elim
  | n + 1, lo, hi, v, ts, ⟨b, m, _, h1, h2, _, _, _, hc⟩ => by
    have := (hc.imp (fun i l h t h => h.1) fun _ _ _ _ _ _ h => h).2
    omega
theorem At5.apart {lo hi : Nat} {w w' : World} {b o : Nat} {t : VT} {lv : Value} (h : At5 w b o t lv) (ha : Apart lo hi w w') (hb : b < w.heap.size) (ho : b < lo ∨ hi ≤ b) : At5 w' b o t lv :=
  ⟨(ha.cell (p := ⟨b, _, none⟩) hb ho).trans h.kind, (ha.cell (p := ⟨b, _, none⟩) hb ho).trans h.num, (ha.cell (p := ⟨b, _, none⟩) hb ho).trans h.text, (ha.cell (p := ⟨b, _, none⟩) hb ho).trans h.list, (ha.cell (p := ⟨b, _, none⟩) hb ho).trans h.elem⟩
/-- What lies apart stays lent. -/
theorem LentAt.apart {x y : Nat} {w w' : World} (ha : Apart x y w w') : ∀ {n lo hi : Nat} {v : Value} {ts : List VT}, LentAt w n lo hi v ts → hi ≤ w.heap.size → hi ≤ x ∨ y ≤ lo → LentAt w' n lo hi v ts
  | 0, _, _, _, _, h, _, _ => h.elim
  | n + 1, lo, hi, v, ts, ⟨b, m, hv, h1, h2, h3, h4, h5, hc⟩, hs, ho => by
    have hm := (hc.imp (fun i l h t h => h.1) fun _ _ _ _ _ _ h => h).2
    have hb : b < w.heap.size := by omega
    have hbo : b < x ∨ y ≤ b := by omega
    refine ⟨b, m, hv, h1, h2, h3, fun j => (ha.frozen (p := ⟨b, j, none⟩) hb hbo).trans (h4 j), fun k hk => (h5 k hk).apart ha hb hbo, (hc.imp (fun i l h t h => h.1) ?_).1⟩
    rintro i l h t hl hh ⟨e1, e2, lv, e3, e4⟩
    exact ⟨e1, e2, lv, e3.apart ha hb hbo, LentAt.apart ha e4 (by omega) (by omega)⟩
theorem LentAt.below {w w' : World} {n lo hi : Nat} {v : Value} {ts : List VT} (h : LentAt w n lo hi v ts) (hs : hi ≤ w.heap.size) (hb : Below w.heap.size w w') : LentAt w' n lo hi v ts :=
  h.apart (x := hi) (y := hi) (Apart.of_below hb (Nat.le_refl _)) hs (.inl (Nat.le_refl _))
/-- What is lent may be read. -/
theorem LentAt.lat {w : World} {B : Nat} : ∀ {n lo hi : Nat} {v : Value} {ts : List VT}, LentAt w n lo hi v ts → hi ≤ B → LAt B w n v ts
  | 0, _, _, _, _, h, _ => h.elim
  | n + 1, lo, hi, v, ts, ⟨b, m, hv, h1, h2, h3, h4, h5, hc⟩, hB => by
    have hm := (hc.imp (fun i l h t h => h.1) fun _ _ _ _ _ _ h => h).2
    refine .inr ⟨b, 0, ts.length + 3, hv, by omega, Nat.le_trans h3 (by decide), fun i t ht => ?_⟩
    obtain ⟨l, h, _, hh, _, e2, lv, e3, e4⟩ := hc.at_ (fun i l h t h => h.1) ht
    rw [Nat.zero_add] at e3 ⊢
    exact ⟨e2, lv, e3, LentAt.lat e4 (by omega)⟩
/-- A lent value. -/
def LentV (w : World) (n lo hi : Nat) (v : Value) (t : VT) : Prop := t.Fine ∧ ∃ lv, v = t.agg lv ∧ LentAt w n lo hi lv t.list
theorem LentV.vat {w : World} {B n lo hi : Nat} {v : Value} {t : VT} (h : LentV w n lo hi v t) (hB : hi ≤ B) : VAt B w n v t :=
  let ⟨hf, lv, h1, h2⟩ := h; ⟨hf, lv, h1, h2.lat hB⟩
theorem LentV.below {w w' : World} {n lo hi : Nat} {v : Value} {t : VT} (h : LentV w n lo hi v t) (hs : hi ≤ w.heap.size) (hb : Below w.heap.size w w') : LentV w' n lo hi v t :=
  let ⟨hf, lv, h1, h2⟩ := h; ⟨hf, lv, h1, h2.below hs hb⟩
theorem LentV.apart {x y : Nat} {w w' : World} {n lo hi : Nat} {v : Value} {t : VT} (h : LentV w n lo hi v t) (ha : Apart x y w w') (hs : hi ≤ w.heap.size) (ho : hi ≤ x ∨ y ≤ lo) : LentV w' n lo hi v t :=
  let ⟨hf, lv, h1, h2⟩ := h; ⟨hf, lv, h1, h2.apart ha hs ho⟩
end Go.Proofs.Nu

namespace Go.Proofs.Nu
open Go Go.RowKit

def set5 (w : World) (b o : Nat) (v0 v1 v2 v3 v4 : Value) : World := ((((w.setCell ⟨b, o, none⟩ v0).setCell ⟨b, o + 1, none⟩ v1).setCell ⟨b, o + 2, none⟩ v2).setCell ⟨b, o + 3, none⟩ v3).setCell ⟨b, o + 4, none⟩ v4
theorem set5_size (w : World) (b o : Nat) (v0 v1 v2 v3 v4 : Value) : (set5 w b o v0 v1 v2 v3 v4).heap.size = w.heap.size := by simp [set5, World.setCell]
theorem set1_other {w : World} {b o o' : Nat} {u : Value} {p : Addr} (h : p.block ≠ b ∨ p.off < o ∨ o + 5 ≤ p.off) (h1 : o ≤ o') (h2 : o' < o + 5) : (w.setCell ⟨b, o', none⟩ u).cell? p = w.cell? p := by
  refine World.cell?_setCell_other w ⟨b, o', none⟩ p u ?_
  first
    | (intro e; subst e; simp at h; omega)
    | (obtain ⟨pb, po, ps⟩ := p; simp at h ⊢; omega)
theorem set5_other {w : World} {b o : Nat} {v0 v1 v2 v3 v4 : Value} {p : Addr} (h : p.block ≠ b ∨ p.off < o ∨ o + 5 ≤ p.off) : (set5 w b o v0 v1 v2 v3 v4).cell? p = w.cell? p := by
  unfold set5
  rw [set1_other h (by omega) (by omega), set1_other h (by omega) (by omega), set1_other h (by omega) (by omega), set1_other h (by omega) (by omega), set1_other h (by omega) (by omega)]
theorem set5_frozen {w : World} {b o : Nat} {v0 v1 v2 v3 v4 : Value} (p : Addr) : (set5 w b o v0 v1 v2 v3 v4).frozen? p = w.frozen? p := by
  unfold set5
  rw [World.frozen?_setCell, World.frozen?_setCell, World.frozen?_setCell, World.frozen?_setCell, World.frozen?_setCell]
theorem set5_apart (w : World) (b o : Nat) (v0 v1 v2 v3 v4 : Value) : Apart b (b + 1) w (set5 w b o v0 v1 v2 v3 v4) :=
  (((((Apart.refl _ _ w).setCell (p := ⟨b, o, none⟩) (Nat.le_refl _) (Nat.lt_succ_self _) _).setCell (p := ⟨b, o + 1, none⟩) (Nat.le_refl _) (Nat.lt_succ_self _) _).setCell (p := ⟨b, o + 2, none⟩) (Nat.le_refl _) (Nat.lt_succ_self _) _).setCell (p := ⟨b, o + 3, none⟩) (Nat.le_refl _) (Nat.lt_succ_self _) _).setCell (p := ⟨b, o + 4, none⟩) (Nat.le_refl _) (Nat.lt_succ_self _) _
theorem set5_below {B : Nat} {a w : World} (h : Below B a w) {b o : Nat} {v0 v1 v2 v3 v4 : Value} (hb : B ≤ b) : Below B a (set5 w b o v0 v1 v2 v3 v4) :=
  ((((h.setCell (p := ⟨b, o, none⟩) hb _).setCell (p := ⟨b, o + 1, none⟩) hb _).setCell (p := ⟨b, o + 2, none⟩) hb _).setCell (p := ⟨b, o + 3, none⟩) hb _).setCell (p := ⟨b, o + 4, none⟩) hb _
/-- So many cells are there in a block. -/
def Has (w : World) (b m : Nat) : Prop := ∀ j, j < m → ∃ v, w.cell? ⟨b, j, none⟩ = some v
theorem Has.at5 {w : World} {b m o : Nat} (h : Has w b m) (ho : o + 5 ≤ m) : ∃ v0 v1 v2 v3 v4, w.cell? ⟨b, o, none⟩ = some v0 ∧ w.cell? ⟨b, o + 1, none⟩ = some v1 ∧ w.cell? ⟨b, o + 2, none⟩ = some v2 ∧ w.cell? ⟨b, o + 3, none⟩ = some v3 ∧ w.cell? ⟨b, o + 4, none⟩ = some v4 := by
  obtain ⟨v0, h0⟩ := h o (by omega)
  obtain ⟨v1, h1⟩ := h (o + 1) (by omega)
  obtain ⟨v2, h2⟩ := h (o + 2) (by omega)
  obtain ⟨v3, h3⟩ := h (o + 3) (by omega)
  obtain ⟨v4, h4⟩ := h (o + 4) (by omega)
  exact ⟨v0, v1, v2, v3, v4, h0, h1, h2, h3, h4⟩
theorem set5_cells {w : World} {b m o : Nat} {v0 v1 v2 v3 v4 : Value} (h : Has w b m) (ho : o + 5 ≤ m) :
    (set5 w b o v0 v1 v2 v3 v4).cell? ⟨b, o, none⟩ = some v0 ∧ (set5 w b o v0 v1 v2 v3 v4).cell? ⟨b, o + 1, none⟩ = some v1 ∧ (set5 w b o v0 v1 v2 v3 v4).cell? ⟨b, o + 2, none⟩ = some v2 ∧ (set5 w b o v0 v1 v2 v3 v4).cell? ⟨b, o + 3, none⟩ = some v3 ∧ (set5 w b o v0 v1 v2 v3 v4).cell? ⟨b, o + 4, none⟩ = some v4 := by
  obtain ⟨u0, u1, u2, u3, u4, h0, h1, h2, h3, h4⟩ := h.at5 ho
  unfold set5
  refine ⟨?_, ?_, ?_, ?_, ?_⟩
  · rw [World.cell?_setCell_other _ _ _ _ (by simp), World.cell?_setCell_other _ _ _ _ (by simp), World.cell?_setCell_other _ _ _ _ (by simp), World.cell?_setCell_other _ _ _ _ (by simp), World.cell?_setCell_same _ _ _ h0]
  · rw [World.cell?_setCell_other _ _ _ _ (by simp), World.cell?_setCell_other _ _ _ _ (by simp), World.cell?_setCell_other _ _ _ _ (by simp), World.cell?_setCell_same _ _ _ (by rw [World.cell?_setCell_other _ _ _ _ (by simp)]; exact h1)]
  · rw [World.cell?_setCell_other _ _ _ _ (by simp), World.cell?_setCell_other _ _ _ _ (by simp), World.cell?_setCell_same _ _ _ (by rw [World.cell?_setCell_other _ _ _ _ (by simp), World.cell?_setCell_other _ _ _ _ (by simp)]; exact h2)]
  · rw [World.cell?_setCell_other _ _ _ _ (by simp), World.cell?_setCell_same _ _ _ (by rw [World.cell?_setCell_other _ _ _ _ (by simp), World.cell?_setCell_other _ _ _ _ (by simp), World.cell?_setCell_other _ _ _ _ (by simp)]; exact h3)]
  · rw [World.cell?_setCell_same _ _ _ (by rw [World.cell?_setCell_other _ _ _ _ (by simp), World.cell?_setCell_other _ _ _ _ (by simp), World.cell?_setCell_other _ _ _ _ (by simp), World.cell?_setCell_other _ _ _ _ (by simp)]; exact h4)]
theorem Has.set5 {w : World} {b m o : Nat} {v0 v1 v2 v3 v4 : Value} (h : Has w b m) (ho : o + 5 ≤ m) : Has (set5 w b o v0 v1 v2 v3 v4) b m := fun j hj => by
  obtain ⟨c0, c1, c2, c3, c4⟩ := set5_cells (v0 := v0) (v1 := v1) (v2 := v2) (v3 := v3) (v4 := v4) h ho
  by_cases hx : j < o ∨ o + 5 ≤ j
  · rw [set5_other (p := ⟨b, j, none⟩) (.inr hx)]
    exact h j hj
  · obtain rfl | rfl | rfl | rfl | rfl : j = o ∨ j = o + 1 ∨ j = o + 2 ∨ j = o + 3 ∨ j = o + 4 := by omega
    · exact ⟨_, c0⟩
    · exact ⟨_, c1⟩
    · exact ⟨_, c2⟩
    · exact ⟨_, c3⟩
    · exact ⟨_, c4⟩
theorem Has.below {w w' : World} {b m B : Nat} (h : Has w b m) (hb : Below B w w') (hlt : b < B) : Has w' b m := fun j hj => by
  obtain ⟨v, hv⟩ := h j hj
  exact ⟨v, (hb.cell (p := ⟨b, j, none⟩) hlt).trans hv⟩
theorem Has.apart {w w' : World} {b m lo hi : Nat} (h : Has w b m) (ha : Apart lo hi w w') (hlt : b < w.heap.size) (ho : b < lo ∨ hi ≤ b) : Has w' b m := fun j hj => by
  obtain ⟨v, hv⟩ := h j hj
  exact ⟨v, (ha.cell (p := ⟨b, j, none⟩) hlt ho).trans hv⟩
/-- One part of a lent list. -/
def Part (w : World) (b n : Nat) (i l h : Nat) (t : VT) : Prop := l ≤ h ∧ t.Fine ∧ ∃ lv, At5 w b (i * 5) t lv ∧ LentAt w n l h lv t.list
theorem Part.le {w : World} {b n i l h : Nat} {t : VT} (p : Part w b n i l h t) : l ≤ h := p.1
theorem Chain.imp' {α : Type} {E F : Nat → Nat → Nat → α → Prop} (hE : ∀ i lo hi t, E i lo hi t → lo ≤ hi) : ∀ {ts : List α} {i lo hi : Nat}, Chain E i lo hi ts → (∀ j l h t, i ≤ j → j < i + ts.length → lo ≤ l → h ≤ hi → E j l h t → F j l h t) → Chain F i lo hi ts ∧ lo ≤ hi
  | [], i, lo, hi, h, _ => ⟨h, Nat.le_of_eq h⟩
  | a :: ts, i, lo, hi, ⟨m, h1, h2⟩, hf => by
    have hlm := hE _ _ _ _ h1
    obtain ⟨h3, h4⟩ := Chain.imp' hE h2 fun j l h t hj hj' hl hh => hf j l h t (by omega) (by simp only [List.length_cons]; omega) (by omega) hh
    exact ⟨⟨m, hf _ _ _ _ (Nat.le_refl _) (by simp) (Nat.le_refl _) h4 h1, h3⟩, by omega⟩
/-- The parts stay where block b is written elsewhere, and no block of theirs is. -/
theorem parts_keep {w w' : World} {b n i m hi x : Nat} {ts : List VT} (h : Chain (Part w b n) i m hi ts) (hc : ∀ j, i * 5 ≤ j → j < (i + ts.length) * 5 → w'.cell? ⟨b, j, none⟩ = w.cell? ⟨b, j, none⟩) (ha : Apart b x w w') (hhi : hi ≤ w.heap.size) (hx : x ≤ m) : Chain (Part w' b n) i m hi ts :=
  (h.imp' (fun _ _ _ _ p => p.1) (by
    rintro j l h t hj hj' hl hh ⟨e1, e2, lv, e3, e4⟩
    exact ⟨e1, e2, lv, ⟨(hc _ (by omega) (by omega)).trans e3.kind, (hc _ (by omega) (by omega)).trans e3.num, (hc _ (by omega) (by omega)).trans e3.text, (hc _ (by omega) (by omega)).trans e3.list, (hc _ (by omega) (by omega)).trans e3.elem⟩, e4.apart ha (by omega) (by omega)⟩)).1
theorem take_snoc {α : Type} {l : List α} {i : Nat} {t : α} (h : l[i]? = some t) : l.take (i + 1) = l.take i ++ [t] := by
  rw [List.take_add_one, h]; rfl
theorem take_len {α : Type} {l : List α} {i : Nat} (h : i ≤ l.length) : (l.take i).length = i := by simp; omega
theorem heap5 {w : World} {b : Nat} {T : TypeId} {u0 u1 u2 u3 u4 v0 v1 v2 v3 v4 : Value} (h : w.heap[b]? = some (.cells #[u0, u1, u2, u3, u4] T (0, 0))) : (set5 w b 0 v0 v1 v2 v3 v4).heap[b]? = some (.cells #[v0, v1, v2, v3, v4] T (0, 0)) :=
  heap_setCell_same _ b 4 _ T _ (heap_setCell_same _ b 3 _ T _ (heap_setCell_same _ b 2 _ T _ (heap_setCell_same _ b 1 _ T _ (heap_setCell_same _ b 0 _ T _ h))))
theorem lent_hi {w w' : World} {n lo hi : Nat} {v : Value} {ts : List VT} (h : LentAt w n lo hi v ts) {x y : Nat} (ha : Apart x y w w') (hs : hi ≤ w.heap.size) (hy : y ≤ lo) : LentAt w' n lo hi v ts := h.apart ha hs (.inr hy)
theorem LentAt.lo {w : World} {n lo lo' hi : Nat} {v : Value} {ts : List VT} (h : LentAt w n lo hi v ts) (hlo : lo' ≤ lo) : LentAt w n lo' hi v ts := by
  cases n with
  | zero => exact h.elim
  | succ n =>
    obtain ⟨b, m, h1, h2, h3⟩ := h
    exact ⟨b, m, h1, by omega, h3⟩
theorem LentAt.form {w : World} {n lo hi : Nat} {v : Value} {ts : List VT} (h : LentAt w n lo hi v ts) : ∃ b, v = .slice (some ⟨b, 0, none⟩) ts.length (ts.length + 3) := by
  cases n with
  | zero => exact h.elim
  | succ n => obtain ⟨b, m, h1, _⟩ := h; exact ⟨b, h1⟩
end Go.Proofs.Nu

namespace Go.Proofs.Nu
open Go Go.RowKit

/-- Where LentAll stands in front of its round j: b is the block that it made, in world w's first free place. -/
structure LRel (w wr : World) (N j : Nat) (l : List VT) : Prop where
  below : Below w.heap.size w wr
  lt : w.heap.size < wr.heap.size
  has : Has wr w.heap.size ((l.length + 3) * 5)
  froz : ∀ o, wr.frozen? ⟨w.heap.size, o, none⟩ = false
  parts : Chain (Part wr w.heap.size N) 0 (w.heap.size + 1) wr.heap.size (l.take j)
  marks : ∀ k, l.length ≤ k → k < j → At5 wr w.heap.size (k * 5) (markT k) (.slice none 0 0)
theorem LRel.mark {w wr : World} {N j : Nat} {l : List VT} (h : LRel w wr N j l) (hj : l.length ≤ j) (hj3 : j < l.length + 3) : LRel w (set5 wr w.heap.size (j * 5) (.int .i64 (-7)) (.int .u64 j) (.string ⟨#[]⟩) (.slice none 0 0) (.int .i64 0)) N (j + 1) l := by
  have hz := set5_size wr w.heap.size (j * 5) (.int .i64 (-7)) (.int .u64 j) (.string ⟨#[]⟩) (.slice none 0 0) (.int .i64 0)
  obtain ⟨c0, c1, c2, c3, c4⟩ := set5_cells (v0 := .int .i64 (-7)) (v1 := .int .u64 j) (v2 := .string ⟨#[]⟩) (v3 := .slice none 0 0) (v4 := .int .i64 0) h.has (o := j * 5) (by omega)
  refine ⟨set5_below h.below (Nat.le_refl _), by rw [hz]; exact h.lt, h.has.set5 (by omega), fun o => (set5_frozen _).trans (h.froz o), ?_, fun k hk hk' => ?_⟩
  · rw [List.take_of_length_le (by omega)]
    have hp := h.parts
    rw [List.take_of_length_le (by omega)] at hp
    rw [hz]
    exact parts_keep hp (fun o ho ho' => set5_other (.inr (.inl (by show o < j * 5; omega)))) (set5_apart _ _ _ _ _ _ _ _) (Nat.le_refl _) (Nat.le_refl _)
  · by_cases e : k = j
    · subst e; exact ⟨c0, c1, c2, c3, c4⟩
    · obtain ⟨a0, a1, a2, a3, a4⟩ := h.marks k hk (by omega)
      have x : ∀ i, i < 5 → (set5 wr w.heap.size (j * 5) (.int .i64 (-7)) (.int .u64 j) (.string ⟨#[]⟩) (.slice none 0 0) (.int .i64 0)).cell? ⟨w.heap.size, k * 5 + i, none⟩ = wr.cell? ⟨w.heap.size, k * 5 + i, none⟩ := fun i hi => set5_other (.inr (.inl (by show k * 5 + i < j * 5; omega)))
      exact ⟨(x 0 (by omega)).trans a0, (x 1 (by omega)).trans a1, (x 2 (by omega)).trans a2, (x 3 (by omega)).trans a3, (x 4 (by omega)).trans a4⟩
/-- Behind a store of any mark and a call that turns nothing that lay. -/
theorem LRel.part {w wr w2 : World} {N j : Nat} {l : List VT} {t : VT} {v' : Value} (h : LRel w wr N j l) (ht : l[j]? = some t) (hf : t.Fine)
    (u0 u1 u2 u3 u4 : Value) (hb : Below (set5 wr w.heap.size (j * 5) u0 u1 u2 u3 u4).heap.size (set5 wr w.heap.size (j * 5) u0 u1 u2 u3 u4) w2) (hl : LentAt w2 N (set5 wr w.heap.size (j * 5) u0 u1 u2 u3 u4).heap.size w2.heap.size v' t.list) :
    LRel w (set5 w2 w.heap.size (j * 5) (.int .i64 t.kind) (.int .u64 t.num) (.string t.text) v' (.int .i64 t.elem)) N (j + 1) l := by
  have hj : j < l.length := (List.getElem?_eq_some_iff.1 ht).1
  have hlt := h.lt
  have hz1 := set5_size wr w.heap.size (j * 5) u0 u1 u2 u3 u4
  have hz2 := set5_size w2 w.heap.size (j * 5) (.int .i64 t.kind) (.int .u64 t.num) (.string t.text) v' (.int .i64 t.elem)
  have hs2 := hb.size
  rw [hz1] at hb hl hs2
  have has1 := h.has.set5 (o := j * 5) (v0 := u0) (v1 := u1) (v2 := u2) (v3 := u3) (v4 := u4) (by omega)
  have has2 : Has w2 w.heap.size ((l.length + 3) * 5) := has1.below hb hlt
  obtain ⟨c0, c1, c2, c3, c4⟩ := set5_cells (v0 := .int .i64 t.kind) (v1 := .int .u64 t.num) (v2 := .string t.text) (v3 := v') (v4 := .int .i64 t.elem) has2 (o := j * 5) (by omega)
  have hle := hl.le
  refine ⟨set5_below ((set5_below h.below (Nat.le_refl _)).trans (hb.mono (by omega))) (Nat.le_refl _), by rw [hz2]; omega, has2.set5 (by omega), fun o => (set5_frozen _).trans ((hb.frozen (p := ⟨_, o, none⟩) hlt).trans ((set5_frozen _).trans (h.froz o))), ?_, fun k hk hk' => by omega⟩
  rw [take_snoc ht, hz2]
  refine Chain.snoc (mid := wr.heap.size) ?_ ?_
  · have ha : Apart w.heap.size (w.heap.size + 1) wr (set5 w2 w.heap.size (j * 5) (.int .i64 t.kind) (.int .u64 t.num) (.string t.text) v' (.int .i64 t.elem)) :=
      ((set5_apart wr w.heap.size (j * 5) u0 u1 u2 u3 u4).trans (Apart.of_below hb (by rw [hz1]; exact Nat.le_refl _))).trans (set5_apart _ _ _ _ _ _ _ _)
    refine parts_keep h.parts (fun o ho ho' => ?_) ha (Nat.le_refl _) (Nat.le_refl _)
    rw [take_len (by omega)] at ho'
    rw [set5_other (.inr (.inl (by show o < j * 5; omega))), hb.cell (p := ⟨w.heap.size, o, none⟩) hlt, set5_other (.inr (.inl (by show o < j * 5; omega)))]
  · rw [take_len (by omega), Nat.zero_add]
    refine ⟨by omega, hf, v', ⟨c0, c1, c2, c3, c4⟩, ?_⟩
    exact hl.apart (set5_apart _ _ _ _ _ _ _ _) (Nat.le_refl _) (.inr (by omega))
theorem LRel.done {w wr : World} {N : Nat} {l : List VT} (h : LRel w wr N (l.length + 3) l) (hl : l.length ≤ 100000) : LentAt wr (N + 1) w.heap.size wr.heap.size (.slice (some ⟨w.heap.size, 0, none⟩) l.length (l.length + 3)) l := by
  have hp := h.parts
  rw [List.take_of_length_le (by omega)] at hp
  exact ⟨w.heap.size, w.heap.size + 1, rfl, Nat.le_refl _, Nat.lt_succ_self _, hl, h.froz, fun k hk => h.marks _ (by omega) (by omega), hp⟩
theorem LRel.start {w : World} {N : Nat} {l : List VT} {C : Array Value} {T : TypeId} (hC : C.size = (l.length + 3) * 5) : LRel w (w.alloc (.cells C T)) N 0 l := by
  refine ⟨(Below.refl _ _).alloc (Nat.le_refl _) _, by rw [show (w.alloc (.cells C T)).heap.size = w.heap.size + 1 from Array.size_push ..]; omega, fun j hj => ?_, fun o => World.frozen?_alloc_new _ _ _ _, ?_, fun k _ hk => by omega⟩
  · rw [World.cell?_alloc_new]
    exact ⟨_, Array.getElem?_eq_getElem (by omega)⟩
  · exact (Array.size_push ..).symm
end Go.Proofs.Nu

namespace Go.Proofs.Nu
open Go Go.RowKit

/-- Where AsLentAll stands in front of its round j: what is behind is as it was lent. -/
structure ARel (w wr : World) (N b lo hi j : Nat) (l : List VT) : Prop where
  apart : Apart lo hi w wr
  has : Has wr b ((l.length + 3) * 5)
  froz : ∀ o, wr.frozen? ⟨b, o, none⟩ = false
  parts : ∃ mid, b < mid ∧ Chain (Part wr b N) j mid hi (l.drop j)
  marks : ∀ k, l.length ≤ k → k < l.length + 3 → j ≤ k → At5 wr b (k * 5) (markT k) (.slice none 0 0)
theorem lentAt_open {w : World} {N lo hi : Nat} {v : Value} {l : List VT} (h : LentAt w (N + 1) lo hi v l) : ∃ b, v = .slice (some ⟨b, 0, none⟩) l.length (l.length + 3) ∧ lo ≤ b ∧ b < hi ∧ l.length ≤ 100000 ∧ ARel w w N b lo hi 0 l := by
  obtain ⟨b, m, hv, h1, h2, h3, h4, h5, hc⟩ := h
  have hm := (hc.imp (fun i l h t h => h.1) fun _ _ _ _ _ _ h => h).2
  refine ⟨b, hv, h1, by omega, h3, Apart.refl _ _ _, fun j hj => ?_, h4, ⟨m, h2, hc⟩, fun k hk hk' _ => by have := h5 (k - l.length) (by omega); rwa [show l.length + (k - l.length) = k by omega] at this⟩
  by_cases hjl : j < l.length * 5
  · obtain ⟨x, y, _, _, _, _, lv, e, _⟩ := hc.at_ (fun i l h t h => h.1) (k := j / 5) (List.getElem?_eq_getElem (by omega))
    rw [Nat.zero_add] at e
    obtain h | h | h | h | h : j = j / 5 * 5 ∨ j = j / 5 * 5 + 1 ∨ j = j / 5 * 5 + 2 ∨ j = j / 5 * 5 + 3 ∨ j = j / 5 * 5 + 4 := by omega
    · rw [h]; exact ⟨_, e.kind⟩
    · rw [h]; exact ⟨_, e.num⟩
    · rw [h]; exact ⟨_, e.text⟩
    · rw [h]; exact ⟨_, e.list⟩
    · rw [h]; exact ⟨_, e.elem⟩
  · have e := h5 (j / 5 - l.length) (by omega)
    rw [show l.length + (j / 5 - l.length) = j / 5 by omega] at e
    obtain h | h | h | h | h : j = j / 5 * 5 ∨ j = j / 5 * 5 + 1 ∨ j = j / 5 * 5 + 2 ∨ j = j / 5 * 5 + 3 ∨ j = j / 5 * 5 + 4 := by omega
    · rw [h]; exact ⟨_, e.kind⟩
    · rw [h]; exact ⟨_, e.num⟩
    · rw [h]; exact ⟨_, e.text⟩
    · rw [h]; exact ⟨_, e.list⟩
    · rw [h]; exact ⟨_, e.elem⟩
/-- The part at hand, and what is behind it, whatever is written in its own blocks. -/
theorem ARel.head {w wr : World} {N b lo hi j : Nat} {l : List VT} {t : VT} (h : ARel w wr N b lo hi j l) (ht : l[j]? = some t) (hlo : lo ≤ b) (hbs : hi ≤ w.heap.size) :
    ∃ x y lv, b < x ∧ y ≤ hi ∧ t.Fine ∧ At5 wr b (j * 5) t lv ∧ LentAt wr N x y lv t.list ∧
      ∀ w2, Apart x y wr w2 → ∀ u0 u1 u2 u3 u4, ARel w (set5 w2 b (j * 5) u0 u1 u2 u3 u4) N b lo hi (j + 1) l := by
  obtain ⟨mid, hm, hc⟩ := h.parts
  have hj : j < l.length := (List.getElem?_eq_some_iff.1 ht).1
  rw [List.drop_eq_getElem_cons hj, show l[j] = t from (List.getElem?_eq_some_iff.1 ht).2] at hc
  obtain ⟨y, ⟨h1, hf, lv, ha, hl⟩, hc2⟩ := hc
  have hy := (hc2.imp (fun i l h t h => h.1) fun _ _ _ _ _ _ h => h).2
  have hs := h.apart.size
  have hle := hl.le
  have hb : b < wr.heap.size := by omega
  refine ⟨mid, y, lv, hm, hy, hf, ha, hl, fun w2 ha2 u0 u1 u2 u3 u4 => ?_⟩
  have hs2 := ha2.size
  have c2 : ∀ o, w2.cell? ⟨b, o, none⟩ = wr.cell? ⟨b, o, none⟩ := fun o => ha2.cell (p := ⟨b, o, none⟩) hb (.inl hm)
  have has2 : Has w2 b ((l.length + 3) * 5) := h.has.apart ha2 hb (.inl hm)
  refine ⟨(h.apart.trans (ha2.wide (by omega) hy)).trans ((set5_apart _ _ _ _ _ _ _ _).wide hlo (by omega)), has2.set5 (by omega), fun o => (set5_frozen _).trans ((ha2.frozen (p := ⟨b, o, none⟩) hb (.inl hm)).trans (h.froz o)), ⟨y, by omega, ?_⟩, fun k hk hk' hjk => ?_⟩
  · have h2 : Chain (Part w2 b N) (j + 1) y hi (l.drop (j + 1)) := (hc2.imp (fun i l h t h => h.1) (by
      rintro i x1 x2 t' hx1 hx2 ⟨p1, p2, lv2, p3, p4⟩
      exact ⟨p1, p2, lv2, ⟨(c2 _).trans p3.kind, (c2 _).trans p3.num, (c2 _).trans p3.text, (c2 _).trans p3.list, (c2 _).trans p3.elem⟩, p4.apart ha2 (by omega) (.inr hx1)⟩)).1
    exact parts_keep h2 (fun o ho _ => set5_other (.inr (.inr (by show j * 5 + 5 ≤ o; omega)))) (set5_apart _ _ _ _ _ _ _ _) (by omega) (by omega)
  · obtain ⟨a0, a1, a2, a3, a4⟩ := h.marks k hk hk' (by omega)
    have x : ∀ i, i < 5 → (set5 w2 b (j * 5) u0 u1 u2 u3 u4).cell? ⟨b, k * 5 + i, none⟩ = wr.cell? ⟨b, k * 5 + i, none⟩ := fun i hi => (set5_other (.inr (.inr (by show j * 5 + 5 ≤ k * 5 + i; omega)))).trans (c2 _)
    exact ⟨(x 0 (by omega)).trans a0, (x 1 (by omega)).trans a1, (x 2 (by omega)).trans a2, (x 3 (by omega)).trans a3, (x 4 (by omega)).trans a4⟩
theorem ARel.mark {w wr : World} {N b lo hi j : Nat} {l : List VT} (h : ARel w wr N b lo hi j l) (hj : l.length ≤ j) (hj3 : j < l.length + 3) (hlo : lo ≤ b) (hbh : b < hi) (hbs : hi ≤ w.heap.size) (u0 u1 u2 u3 u4 : Value) : ARel w (set5 wr b (j * 5) u0 u1 u2 u3 u4) N b lo hi (j + 1) l := by
  obtain ⟨mid, hm, hc⟩ := h.parts
  rw [List.drop_eq_nil_of_le hj] at hc
  refine ⟨h.apart.trans ((set5_apart _ _ _ _ _ _ _ _).wide hlo (by omega)), h.has.set5 (by omega), fun o => (set5_frozen _).trans (h.froz o), ⟨mid, hm, by rw [List.drop_eq_nil_of_le (by omega)]; exact hc⟩, fun k hk hk' hjk => ?_⟩
  obtain ⟨a0, a1, a2, a3, a4⟩ := h.marks k hk hk' (by omega)
  have x : ∀ i, i < 5 → (set5 wr b (j * 5) u0 u1 u2 u3 u4).cell? ⟨b, k * 5 + i, none⟩ = wr.cell? ⟨b, k * 5 + i, none⟩ := fun i hi => set5_other (.inr (.inr (by show j * 5 + 5 ≤ k * 5 + i; omega)))
  exact ⟨(x 0 (by omega)).trans a0, (x 1 (by omega)).trans a1, (x 2 (by omega)).trans a2, (x 3 (by omega)).trans a3, (x 4 (by omega)).trans a4⟩
end Go.Proofs.Nu
