/-
  Plain: the order of trees is a linear one; worlds that only grew. No condition.
-/
import Derived.Test.YtckggmcjcdkfhaaGreatDoorNuAlone
import Derived.Lib.Bytealg
import Derived.Lib.Small
import Derived.Sort.Grow
import Derived.Sort.Statements
import Derived.Deep.Draws
namespace Go.Proofs.Nu
open Go Go.RowKit

/-! ### A comparison that is a linear order -/
structure Lin {α : Type} (f : α → α → Int) : Prop where
  eq : ∀ a b, f a b = 0 ↔ a = b
  sym : ∀ a b, f b a = - f a b
  trans : ∀ a b c, f a b < 0 → f b c < 0 → f a c < 0

def seq (x y : Int) : Int := if x = 0 then y else x
theorem lin_int : Lin Lib.compareInt := by
  refine ⟨fun a b => ?_, fun a b => ?_, fun a b c => ?_⟩ <;> unfold Lib.compareInt <;> (repeat' split) <;> omega
theorem bytes_eq : ∀ a b : List UInt8, Lib.compareBytes a b = 0 ↔ a = b
  | [], [] => by simp [Lib.compareBytes]
  | [], _ :: _ => by simp [Lib.compareBytes]
  | _ :: _, [] => by simp [Lib.compareBytes]
  | a :: as, b :: bs => by
    have ih := bytes_eq as bs
    simp only [Lib.compareBytes]
    by_cases h1 : a < b
    · rw [if_pos h1]
      constructor
      · intro h; cases h
      · intro h; cases h; exact absurd h1 (UInt8.lt_irrefl _)
    · rw [if_neg h1]
      by_cases h2 : b < a
      · rw [if_pos h2]
        constructor
        · intro h; cases h
        · intro h; cases h; exact absurd h2 (UInt8.lt_irrefl _)
      · rw [if_neg h2, ih]
        have : a = b := UInt8.le_antisymm (UInt8.not_lt.1 h2) (UInt8.not_lt.1 h1)
        subst this
        simp
theorem bytes_sym : ∀ a b : List UInt8, Lib.compareBytes b a = - Lib.compareBytes a b
  | [], [] => by simp [Lib.compareBytes]
  | [], _ :: _ => by simp [Lib.compareBytes]
  | _ :: _, [] => by simp [Lib.compareBytes]
  | a :: as, b :: bs => by
    have ih := bytes_sym as bs
    simp only [Lib.compareBytes]
    by_cases h1 : a < b
    · have h2 : ¬ b < a := UInt8.lt_asymm h1
      simp [h1, h2]
    · by_cases h2 : b < a
      · simp [h1, h2]
      · simp [h1, h2, ih]
theorem bytes_trans : ∀ a b c : List UInt8, Lib.compareBytes a b < 0 → Lib.compareBytes b c < 0 → Lib.compareBytes a c < 0
  | [], [], _, h, _ => by simp [Lib.compareBytes] at h
  | [], _ :: _, [], _, h => by simp [Lib.compareBytes] at h
  | [], _ :: _, _ :: _, _, _ => by simp [Lib.compareBytes]
  | _ :: _, [], _, h, _ => by simp [Lib.compareBytes] at h
  | _ :: _, _ :: _, [], _, h => by simp [Lib.compareBytes] at h
  | a :: as, b :: bs, c :: cs, h1, h2 => by
    have ih := bytes_trans as bs cs
    simp only [Lib.compareBytes] at h1 h2 ⊢
    have t : ∀ x y : UInt8, x < y ↔ x.toNat < y.toNat := fun x y => UInt8.lt_iff_toNat_lt
    simp only [t] at h1 h2 ⊢
    by_cases a1 : a.toNat < b.toNat <;> by_cases a2 : b.toNat < a.toNat <;> by_cases b1 : b.toNat < c.toNat <;> by_cases b2 : c.toNat < b.toNat <;> simp [a1, a2, b1, b2] at h1 h2 <;> by_cases c1 : a.toNat < c.toNat <;> by_cases c2 : c.toNat < a.toNat <;> simp [c1, c2] <;> first | omega | exact ih h1 h2
theorem lin_bytes : Lin Lib.compareBytes := ⟨bytes_eq, bytes_sym, bytes_trans⟩
/-- First the one, then the other. -/
theorem Lin.two {α β γ : Type} {f : α → α → Int} {g : β → β → Int} (F : Lin f) (G : Lin g) (p : γ → α) (q : γ → β) (hpq : ∀ x y, p x = p y → q x = q y → x = y) : Lin fun x y => seq (f (p x) (p y)) (g (q x) (q y)) := by
  refine ⟨fun a b => ?_, fun a b => ?_, fun a b c h1 h2 => ?_⟩
  · unfold seq
    by_cases h : f (p a) (p b) = 0
    · rw [if_pos h, G.eq]
      exact ⟨fun k => hpq _ _ ((F.eq _ _).1 h) k, fun k => by rw [k]⟩
    · rw [if_neg h]
      exact ⟨fun k => absurd k h, fun k => by rw [k]; exact (F.eq _ _).2 rfl⟩
  · unfold seq
    have h1 := F.sym (p a) (p b)
    have h2 := G.sym (q a) (q b)
    by_cases h : f (p a) (p b) = 0
    · rw [if_pos h, if_pos (by omega)]; exact h2
    · rw [if_neg h, if_neg (by omega)]; exact h1
  · unfold seq at h1 h2 ⊢
    by_cases e1 : f (p a) (p b) = 0
    · rw [if_pos e1] at h1
      have ea := (F.eq _ _).1 e1
      by_cases e2 : f (p b) (p c) = 0
      · rw [if_pos e2] at h2
        rw [if_pos (by rw [ea]; exact e2)]
        exact G.trans _ _ _ h1 h2
      · rw [if_neg e2] at h2
        rw [ea, if_neg e2]; exact h2
    · rw [if_neg e1] at h1
      by_cases e2 : f (p b) (p c) = 0
      · have eb := (F.eq _ _).1 e2
        rw [← eb, if_neg e1]; exact h1
      · rw [if_neg e2] at h2
        have := F.trans _ _ _ h1 h2
        rw [if_neg (by omega)]; exact this

/-! ### Trees -/
mutual
def ordT : VT → VT → Int
  | .mk k m s e l, .mk k' m' s' e' l' => seq (seq (Lib.compareInt k k') (seq (Lib.compareInt m m') (Lib.compareBytes s.data.toList s'.data.toList))) (seq (ordTs l l') (Lib.compareInt e e'))
def ordTs : List VT → List VT → Int
  | [], [] => 0
  | [], _ :: _ => -1
  | _ :: _, [] => 1
  | a :: l, b :: r => seq (ordT a b) (ordTs l r)
end
theorem seq_zero {x y : Int} : seq x y = 0 ↔ x = 0 ∧ y = 0 := by unfold seq; split <;> omega
theorem seq_0 (y : Int) : seq 0 y = y := rfl
theorem seq_ne {x : Int} (h : ¬ x = 0) (y : Int) : seq x y = x := if_neg h
theorem seq_neg {x y : Int} : seq (-x) (-y) = - seq x y := by unfold seq; (repeat' split) <;> omega
def Tri (x y z : Int) : Prop := (x < 0 → y < 0 → z < 0) ∧ (x = 0 → z = y) ∧ (y = 0 → z = x)
theorem Lin.tri {α : Type} {f : α → α → Int} (F : Lin f) (a b c : α) : Tri (f a b) (f b c) (f a c) :=
  ⟨F.trans a b c, fun h => by rw [(F.eq _ _).1 h], fun h => by rw [(F.eq _ _).1 h]⟩
theorem Tri.seq {x y z x' y' z' : Int} (h : Tri x y z) (k : Tri x' y' z') : Tri (seq x x') (seq y y') (seq z z') := by
  unfold Tri Nu.seq at *
  obtain ⟨h1, h2, h3⟩ := h
  obtain ⟨k1, k2, k3⟩ := k
  by_cases hx : x = 0 <;> by_cases hy : y = 0 <;> by_cases hz : z = 0 <;> simp_all <;> omega
mutual
theorem ordT_eq : ∀ a b : VT, ordT a b = 0 ↔ a = b
  | .mk k m s e l, .mk k' m' s' e' l' => by
    have ih := ordTs_eq l l'
    simp only [ordT, seq_zero, lin_int.eq, lin_bytes.eq, ih, VT.mk.injEq]
    constructor
    · rintro ⟨⟨a, b, c⟩, d, f⟩
      refine ⟨a, b, ?_, f, d⟩
      cases s; cases s'
      congr 1
      exact Array.toList_inj.1 c
    · rintro ⟨a, b, c, f, d⟩
      exact ⟨⟨a, b, by rw [c]⟩, d, f⟩
theorem ordTs_eq : ∀ l r : List VT, ordTs l r = 0 ↔ l = r
  | [], [] => by simp [ordTs]
  | [], _ :: _ => by simp [ordTs]
  | _ :: _, [] => by simp [ordTs]
  | a :: l, b :: r => by
    have i1 := ordT_eq a b
    have i2 := ordTs_eq l r
    simp only [ordTs, seq_zero, i1, i2, List.cons.injEq]
end
mutual
theorem ordT_sym : ∀ a b : VT, ordT b a = - ordT a b
  | .mk k m s e l, .mk k' m' s' e' l' => by
    have ih := ordTs_sym l l'
    simp only [ordT]
    rw [lin_int.sym k k', lin_int.sym m m', lin_bytes.sym s.data.toList, lin_int.sym e e', ih, seq_neg, seq_neg, seq_neg, seq_neg]
theorem ordTs_sym : ∀ l r : List VT, ordTs r l = - ordTs l r
  | [], [] => by simp [ordTs]
  | [], _ :: _ => by simp [ordTs]
  | _ :: _, [] => by simp [ordTs]
  | a :: l, b :: r => by
    have i1 := ordT_sym a b
    have i2 := ordTs_sym l r
    simp only [ordTs]
    rw [i1, i2, seq_neg]
end
mutual
theorem ordT_tri : ∀ a b c : VT, Tri (ordT a b) (ordT b c) (ordT a c)
  | .mk k m s e l, .mk k' m' s' e' l', .mk k2 m2 s2 e2 l2 => by
    have ih := ordTs_tri l l' l2
    simp only [ordT]
    exact ((lin_int.tri _ _ _).seq ((lin_int.tri _ _ _).seq (lin_bytes.tri _ _ _))).seq (ih.seq (lin_int.tri _ _ _))
theorem ordTs_tri : ∀ a b c : List VT, Tri (ordTs a b) (ordTs b c) (ordTs a c)
  | [], [], c => by simp [Tri, ordTs]
  | [], _ :: _, [] => by simp [Tri, ordTs]
  | [], _ :: _, _ :: _ => by simp [Tri, ordTs]
  | _ :: _, [], [] => by simp [Tri, ordTs]
  | _ :: _, [], _ :: _ => by simp [Tri, ordTs]
  | _ :: _, _ :: _, [] => by simp [Tri, ordTs]
  | a :: l, b :: r, c :: q => by
    have i1 := ordT_tri a b c
    have i2 := ordTs_tri l r q
    simp only [ordTs]
    exact i1.seq i2
end
theorem lin_ord : Lin ordT := ⟨ordT_eq, ordT_sym, fun a b c => (ordT_tri a b c).1⟩
mutual
theorem eqT_iff : ∀ a b : VT, eqT a b = true ↔ a = b
  | .mk k m s e l, .mk k' m' s' e' l' => by
    have ih := eqTs_iff l l'
    simp only [eqT, Bool.and_eq_true, beq_iff_eq, ih, VT.mk.injEq]
    constructor
    · rintro ⟨a, b, c, d, f⟩; exact ⟨a, b, toList_inj c, d, f⟩
    · rintro ⟨a, b, c, d, f⟩; exact ⟨a, b, by rw [c], d, f⟩
theorem eqTs_iff : ∀ l r : List VT, eqTs l r = true ↔ l = r
  | [], [] => by simp [eqTs]
  | [], _ :: _ => by simp [eqTs]
  | _ :: _, [] => by simp [eqTs]
  | a :: l, b :: r => by
    have i1 := eqT_iff a b
    have i2 := eqTs_iff l r
    simp only [eqTs, Bool.and_eq_true, i1, i2, List.cons.injEq]
end
theorem swo_lin {α : Type} {f : α → α → Int} (F : Lin f) : Sort.SWO (fun x y => decide (f x y < 0)) where
  irrefl x := by have := (F.eq x x).2 rfl; simp [this]
  trans x y z h1 h2 := by simp only [decide_eq_true_eq] at *; exact F.trans _ _ _ h1 h2
  ntrans x y z h1 h2 := by
    simp only [decide_eq_false_iff_not] at *
    intro h
    have s1 := F.sym x y
    have s2 := F.sym y z
    by_cases e1 : f x y = 0
    · rw [(F.eq _ _).1 e1] at h; exact h2 h
    · by_cases e2 : f y z = 0
      · rw [← (F.eq _ _).1 e2] at h; exact h1 h
      · have := F.trans z y x (by omega) (by omega)
        have s3 := F.sym x z
        omega

theorem ordTs_step {l r : List VT} {k : Nat} {a b : VT} (ha : l[k]? = some a) (hb : r[k]? = some b) : ordTs (l.drop k) (r.drop k) = seq (ordT a b) (ordTs (l.drop (k + 1)) (r.drop (k + 1))) := by
  have h1 : l.drop k = a :: l.drop (k + 1) := by
    rw [List.drop_eq_getElem_cons (List.getElem?_eq_some_iff.1 ha).1]; congr 1; exact (List.getElem?_eq_some_iff.1 ha).2
  have h2 : r.drop k = b :: r.drop (k + 1) := by
    rw [List.drop_eq_getElem_cons (List.getElem?_eq_some_iff.1 hb).1]; congr 1; exact (List.getElem?_eq_some_iff.1 hb).2
  rw [h1, h2, ordTs]
theorem ordTs_over {l r : List VT} {k : Nat} (h1 : k < l.length) (h2 : r.length ≤ k) : ordTs (l.drop k) (r.drop k) = 1 := by
  rw [List.drop_eq_getElem_cons h1, List.drop_eq_nil_of_le h2, ordTs]
theorem ordTs_end {l r : List VT} {k : Nat} (h1 : l.length ≤ k) : ordTs (l.drop k) (r.drop k) = if k < r.length then -1 else 0 := by
  rw [List.drop_eq_nil_of_le h1]
  by_cases h : k < r.length
  · rw [List.drop_eq_getElem_cons h, ordTs, if_pos h]
  · rw [List.drop_eq_nil_of_le (by omega), ordTs, if_neg h]
/-! ### Worlds that only grew -/
/-- Blocks were laid and draws made, nothing else. -/
def Grows (w w' : World) : Prop := ∃ (q : Nat) (os : Array Obj), w' = Sort.grow (w.drewN q) os
theorem Grows.refl (w : World) : Grows w w := ⟨0, #[], by unfold Sort.grow World.drewN; simp⟩
theorem Grows.trans {a b c : World} (h : Grows a b) (k : Grows b c) : Grows a c := by
  obtain ⟨q, os, rfl⟩ := h
  obtain ⟨q', os', rfl⟩ := k
  exact ⟨q + q', os ++ os', by unfold Sort.grow World.drewN; simp [Array.append_assoc, Nat.add_assoc]⟩
theorem Grows.alloc {a b : World} (h : Grows a b) (o : Obj) : Grows a (b.alloc o) := h.trans ⟨0, #[o], by unfold Sort.grow World.drewN World.alloc; simp⟩
theorem Grows.drew {a b : World} (h : Grows a b) : Grows a b.drew := h.trans ⟨1, #[], by unfold Sort.grow World.drewN World.drew; simp⟩
theorem Grows.drewN {a b : World} (h : Grows a b) (n : Nat) : Grows a (b.drewN n) := h.trans ⟨n, #[], by unfold Sort.grow World.drewN; simp⟩
theorem Grows.below {a b : World} (h : Grows a b) : Below a.heap.size a b := by
  obtain ⟨q, os, rfl⟩ := h
  refine ⟨rfl, rfl, rfl, ?_, fun k hk => ?_⟩
  · show a.heap.size ≤ (a.heap ++ os).size
    simp
  · show (a.heap ++ os)[k]? = a.heap[k]?
    rw [Array.getElem?_append_left hk]
theorem Grows.size {a b : World} (h : Grows a b) : a.heap.size ≤ b.heap.size := h.below.size
end Go.Proofs.Nu
