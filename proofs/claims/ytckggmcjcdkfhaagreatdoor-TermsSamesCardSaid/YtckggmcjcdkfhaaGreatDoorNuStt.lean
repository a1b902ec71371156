/-
  NuStateA: Plain: a delivery's state as a tree; how it lies in memory; how it is weighed; when two are the same; how it is lent. No condition.
  NuStateB: Plain: a state's cells one by one; a pair of values as a list; two new blocks. No condition.
  NuStateC: Plain: the round of lentState, and of keptState. No condition.
  NuStateD: Plain: the round of keptState. No condition.
-/
import Derived.Test.YtckggmcjcdkfhaaGreatDoorNuLnt
import Derived.Test.YtckggmcjcdkfhaaGreatDoorNuVal
import Derived.Deep.MidRow
import Derived.Laws.IdiomCopy
namespace Go.Proofs.Nu
open Go Go.RowKit

inductive ST where
  | mk (kind section_ offset : Int) (cond text : ByteArray) (info : VT) (failed elsewhere : Bool) (ann : VT) (txn : ByteArray) (inner : List ST)
def ST.kind : ST → Int | .mk k _ _ _ _ _ _ _ _ _ _ => k
def ST.section_ : ST → Int | .mk _ x _ _ _ _ _ _ _ _ _ => x
def ST.offset : ST → Int | .mk _ _ x _ _ _ _ _ _ _ _ => x
def ST.cond : ST → ByteArray | .mk _ _ _ x _ _ _ _ _ _ _ => x
def ST.text : ST → ByteArray | .mk _ _ _ _ x _ _ _ _ _ _ => x
def ST.info : ST → VT | .mk _ _ _ _ _ x _ _ _ _ _ => x
def ST.failed : ST → Bool | .mk _ _ _ _ _ _ x _ _ _ _ => x
def ST.elsewhere : ST → Bool | .mk _ _ _ _ _ _ _ x _ _ _ => x
def ST.ann : ST → VT | .mk _ _ _ _ _ _ _ _ x _ _ => x
def ST.txn : ST → ByteArray | .mk _ _ _ _ _ _ _ _ _ x _ => x
def ST.inner : ST → List ST | .mk _ _ _ _ _ _ _ _ _ _ x => x
theorem ST.eta (s : ST) : ST.mk s.kind s.section_ s.offset s.cond s.text s.info s.failed s.elsewhere s.ann s.txn s.inner = s := by cases s; rfl
structure ST.Fine (s : ST) : Prop where
  k0 : -9223372036854775808 ≤ s.kind
  k1 : s.kind ≤ 9223372036854775807
  s0 : -9223372036854775808 ≤ s.section_
  s1 : s.section_ ≤ 9223372036854775807
  o0 : -9223372036854775808 ≤ s.offset
  o1 : s.offset ≤ 9223372036854775807
  c : s.cond.size ≤ maxLen
  t : s.text.size ≤ maxLen
  x : s.txn.size ≤ maxLen
  i : s.info.Fine
  a : s.ann.Fine
/-- A state's cells: its values' lists at il and al, its inner states at lv. -/
def ST.cells (s : ST) (il al lv : Value) : List Value :=
  [.int .i64 s.kind, .int .i64 s.section_, .int .i64 s.offset, .string s.cond, .string s.text, .int .i64 s.info.kind, .int .u64 s.info.num, .string s.info.text, il, .int .i64 s.info.elem,
   .bool s.failed, .bool s.elsewhere, .int .i64 s.ann.kind, .int .u64 s.ann.num, .string s.ann.text, al, .int .i64 s.ann.elem, .string s.txn, lv]
abbrev ST.agg (s : ST) (il al lv : Value) : Value := .agg #[.int .i64 s.kind, .int .i64 s.section_, .int .i64 s.offset, .string s.cond, .string s.text, .int .i64 s.info.kind, .int .u64 s.info.num, .string s.info.text, il, .int .i64 s.info.elem,
   .bool s.failed, .bool s.elsewhere, .int .i64 s.ann.kind, .int .u64 s.ann.num, .string s.ann.text, al, .int .i64 s.ann.elem, .string s.txn, lv]
/-- Cells lie at a place. -/
def Cells (w : World) (b o : Nat) (cs : List Value) : Prop := ∀ j u, cs[j]? = some u → w.cell? ⟨b, o + j, none⟩ = some u
theorem Cells.below {B : Nat} {w w' : World} {b o : Nat} {cs : List Value} (h : Cells w b o cs) (hb : Below B w w') (hlt : b < B) : Cells w' b o cs := fun j u hu => (hb.cell (p := ⟨b, _, none⟩) hlt).trans (h j u hu)
theorem Cells.apart {lo hi : Nat} {w w' : World} {b o : Nat} {cs : List Value} (h : Cells w b o cs) (ha : Apart lo hi w w') (hb : b < w.heap.size) (ho : b < lo ∨ hi ≤ b) : Cells w' b o cs := fun j u hu => (ha.cell (p := ⟨b, _, none⟩) hb ho).trans (h j u hu)
/-- A slice of states, all blocks below B, the values by N levels, the states by so many. -/
def SAt (B N : Nat) (w : World) : Nat → Value → List ST → Prop
  | 0, _, _ => False
  | n + 1, v, ss => (ss = [] ∧ ∃ p c, v = .slice p 0 c) ∨
      ∃ b off c, v = .slice (some ⟨b, off, none⟩) ss.length c ∧ b < B ∧ ss.length ≤ maxLen ∧ ∀ i s, ss[i]? = some s → s.Fine ∧ ∃ il al lv, Cells w b (off + i * 19) (s.cells il al lv) ∧ LAt B w N il s.info.list ∧ LAt B w N al s.ann.list ∧ SAt B N w n lv s.inner
theorem SAt.below {B N : Nat} {w w' : World} (hb : Below B w w') : ∀ {n : Nat} {v : Value} {ss : List ST}, SAt B N w n v ss → SAt B N w' n v ss
  | 0, _, _, h => h
  | n + 1, v, ss, h => by
    rcases h with h | ⟨b, off, c, h1, h2, h3, h4⟩
    · exact .inl h
    · exact .inr ⟨b, off, c, h1, h2, h3, fun i t ht => let ⟨hf, il, al, lv, hc, hi, ha, hl⟩ := h4 i t ht; ⟨hf, il, al, lv, hc.below hb h2, hi.below hb, ha.below hb, SAt.below hb hl⟩⟩
theorem SAt.slice {B N : Nat} {w : World} {n : Nat} {v : Value} {ss : List ST} (h : SAt B N w n v ss) : ∃ p c, v = .slice p ss.length c := by
  cases n with
  | zero => exact h.elim
  | succ n =>
    rcases h with ⟨rfl, p, c, rfl⟩ | ⟨b, off, c, rfl, _⟩
    · exact ⟨p, c, rfl⟩
    · exact ⟨_, c, rfl⟩
theorem SAt.len {B N : Nat} {w : World} {n : Nat} {v : Value} {ss : List ST} (h : SAt B N w n v ss) : ss.length ≤ maxLen := by
  cases n with
  | zero => exact h.elim
  | succ n =>
    rcases h with ⟨rfl, _⟩ | ⟨b, off, c, _, _, h, _⟩
    · exact Nat.zero_le _
    · exact h
theorem SAt.mono {B N M : Nat} {w : World} (hN : N ≤ M) : ∀ {n m : Nat} {v : Value} {ss : List ST}, n ≤ m → SAt B N w n v ss → SAt B M w m v ss
  | 0, _, _, _, _, h => h.elim
  | n + 1, 0, _, _, hn, _ => by omega
  | n + 1, m + 1, v, ss, hn, h => by
    rcases h with h | ⟨b, off, c, h1, h2, h3, h4⟩
    · exact .inl h
    · exact .inr ⟨b, off, c, h1, h2, h3, fun i t ht => let ⟨hf, il, al, lv, hc, hi, ha, hl⟩ := h4 i t ht; ⟨hf, il, al, lv, hc, hi.mono hN, ha.mono hN, SAt.mono hN (by omega) hl⟩⟩
/-- A state as an argument. -/
def SVAt (B N : Nat) (w : World) (n : Nat) (v : Value) (s : ST) : Prop := s.Fine ∧ ∃ il al lv, v = s.agg il al lv ∧ LAt B w N il s.info.list ∧ LAt B w N al s.ann.list ∧ SAt B N w n lv s.inner
theorem SVAt.below {B N : Nat} {w w' : World} {n : Nat} {v : Value} {s : ST} (h : SVAt B N w n v s) (hb : Below B w w') : SVAt B N w' n v s :=
  let ⟨hf, il, al, lv, h1, h2, h3, h4⟩ := h; ⟨hf, il, al, lv, h1, h2.below hb, h3.below hb, h4.below hb⟩

/-- Are a state's own values great? -/
def ST.gr (s : ST) : Bool := decide (100000 < wts [s.info, s.ann] 0)
mutual
def swt : ST → Nat → Nat
  | .mk _ _ _ _ _ i _ _ a _ l, n => swts l (n + 1 + if decide (100000 < wts [i, a] 0) then 20000 else 0)
def swts : List ST → Nat → Nat
  | [], n => n
  | s :: ss, n => if n ≤ 10000 then swts ss (swt s n) else n
end
theorem swt_eq (s : ST) (n : Nat) : swt s n = swts s.inner (n + 1 + if s.gr then 20000 else 0) := by cases s; rw [swt]; rfl
theorem swts_nil (n : Nat) : swts [] n = n := by simp [swts]
theorem swts_big (ss : List ST) {n : Nat} (h : 10000 < n) : swts ss n = n := by
  cases ss with
  | nil => simp [swts]
  | cons t ts => rw [swts, if_neg (by omega)]
theorem drop_cons_at {α : Type} {l : List α} {k : Nat} {a : α} (hk : l[k]? = some a) : l.drop k = a :: l.drop (k + 1) := by
  rw [List.drop_eq_getElem_cons (List.getElem?_eq_some_iff.1 hk).1]
  congr 1
  exact (List.getElem?_eq_some_iff.1 hk).2
theorem swts_step {ss : List ST} {k : Nat} {s : ST} (hk : ss[k]? = some s) {n : Nat} (h : n ≤ 10000) : swts (ss.drop k) n = swts (ss.drop (k + 1)) (swt s n) := by
  rw [drop_cons_at hk, swts, if_pos h]
theorem swts_end (ss : List ST) (n : Nat) : swts (ss.drop ss.length) n = n := by rw [List.drop_length, swts_nil]
mutual
theorem swt_gt : ∀ (t : ST) (n : Nat), n < swt t n
  | .mk _ _ _ _ _ _ _ _ _ _ l, n => by rw [swt]; exact Nat.lt_of_lt_of_le (by omega) (swts_ge l _)
theorem swts_ge : ∀ (ts : List ST) (n : Nat), n ≤ swts ts n
  | [], n => by rw [swts]; exact Nat.le_refl _
  | t :: ts, n => by
    rw [swts]
    split
    · exact Nat.le_trans (Nat.le_of_lt (swt_gt t n)) (swts_ge ts _)
    · exact Nat.le_refl _
end
/-- States that are not great. -/
def Ssm (ss : List ST) : Prop := ∃ n, swts ss n ≤ 10000
theorem swts_len : ∀ (ts : List ST) (n : Nat), swts ts n ≤ 10000 → n + ts.length ≤ 10000
  | [], n, h => by rw [swts] at h; simpa using h
  | t :: ts, n, h => by
    rw [swts] at h
    split at h
    · have := swts_len ts _ h
      have := swt_gt t n
      simp only [List.length_cons]
      omega
    · omega
theorem Ssm.len {ts : List ST} (h : Ssm ts) : ts.length ≤ 10000 := by
  obtain ⟨n, h⟩ := h
  have := swts_len ts n h
  omega
theorem small_of {s : ST} {n : Nat} (h : swt s n ≤ 10000) : Sms s.info.list ∧ Sms s.ann.list ∧ Ssm s.inner := by
  rw [swt_eq] at h
  have hg : s.gr = false := by
    cases hg : s.gr with
    | false => rfl
    | true =>
      rw [hg] at h
      have := swts_ge s.inner (n + 1 + if true = true then 20000 else 0)
      simp at this h
      omega
  have hw : Sms [s.info, s.ann] := ⟨0, by simp [ST.gr] at hg; omega⟩
  exact ⟨hw.child (k := 0) rfl, hw.child (k := 1) rfl, ⟨_, h⟩⟩
theorem Ssm.child : ∀ {ss : List ST} {k : Nat} {s : ST}, Ssm ss → ss[k]? = some s → Sms s.info.list ∧ Sms s.ann.list ∧ Ssm s.inner
  | [], k, t, _, h => by simp at h
  | a :: ts, 0, t, ⟨n, h⟩, hk => by
    simp at hk
    subst hk
    rw [swts] at h
    split at h
    · exact small_of (Nat.le_trans (swts_ge ts (swt a n)) h)
    · omega
  | a :: ts, k + 1, t, ⟨n, h⟩, hk => by
    simp at hk
    rw [swts] at h
    split at h
    · exact Ssm.child ⟨_, h⟩ hk
    · omega

mutual
def eqS : ST → ST → Bool
  | .mk k x o c t i f e a tx l, .mk k' x' o' c' t' i' f' e' a' tx' l' => (k == k') && (x == x') && (o == o') && ((c.toList == c'.toList) && (t.toList == t'.toList) && eqT i i') && (f == f') && (e == e') && eqT a a' && (tx.toList == tx'.toList) && eqSs l l'
def eqSs : List ST → List ST → Bool
  | [], [] => true
  | a :: l, b :: r => eqS a b && eqSs l r
  | _, _ => false
end
theorem eqS_mk (a b : ST) : eqS a b = ((a.kind == b.kind) && (a.section_ == b.section_) && (a.offset == b.offset) && ((a.cond.toList == b.cond.toList) && (a.text.toList == b.text.toList) && eqT a.info b.info) && (a.failed == b.failed) && (a.elsewhere == b.elsewhere) && eqT a.ann b.ann && (a.txn.toList == b.txn.toList) && eqSs a.inner b.inner) := by
  cases a; cases b; simp [eqS, ST.kind, ST.section_, ST.offset, ST.cond, ST.text, ST.info, ST.failed, ST.elsewhere, ST.ann, ST.txn, ST.inner]
theorem eqSs_len : ∀ {l r : List ST}, l.length ≠ r.length → eqSs l r = false
  | [], [], h => absurd rfl h
  | [], _ :: _, _ => by simp [eqSs]
  | _ :: _, [], _ => by simp [eqSs]
  | a :: l, b :: r, h => by
    have := eqSs_len (l := l) (r := r) (by simpa using h)
    simp [eqSs, this]
theorem eqSs_step {l r : List ST} {k : Nat} {a b : ST} (ha : l[k]? = some a) (hb : r[k]? = some b) : eqSs (l.drop k) (r.drop k) = (eqS a b && eqSs (l.drop (k + 1)) (r.drop (k + 1))) := by
  rw [drop_cons_at ha, drop_cons_at hb, eqSs]
theorem eqSs_end {l r : List ST} (h : l.length = r.length) : eqSs (l.drop l.length) (r.drop l.length) = true := by
  rw [List.drop_length, h, List.drop_length, eqSs]
mutual
theorem eqT_refl : ∀ t : VT, eqT t t = true
  | .mk k m s e l => by rw [eqT]; simp [eqTs_refl l]
theorem eqTs_refl : ∀ l : List VT, eqTs l l = true
  | [] => by rw [eqTs]
  | t :: l => by rw [eqTs, eqT_refl t, eqTs_refl l]; rfl
end
mutual
theorem eqS_refl : ∀ t : ST, eqS t t = true
  | .mk k x o c t i f e a tx l => by rw [eqS]; simp [eqT_refl, eqSs_refl l]
theorem eqSs_refl : ∀ l : List ST, eqSs l l = true
  | [] => by rw [eqSs]
  | t :: l => by rw [eqSs, eqS_refl t, eqSs_refl l]; rfl
end
mutual
theorem eqT_symm : ∀ a b : VT, eqT a b = eqT b a
  | .mk k m s e l, .mk k' m' s' e' l' => by rw [eqT, eqT, eqTs_symm l l', Bool.beq_comm (a := k), Bool.beq_comm (a := m), Bool.beq_comm (a := s.toList), Bool.beq_comm (a := e)]
theorem eqTs_symm : ∀ l r : List VT, eqTs l r = eqTs r l
  | [], [] => rfl
  | [], _ :: _ => by simp [eqTs]
  | _ :: _, [] => by simp [eqTs]
  | a :: l, b :: r => by rw [eqTs, eqTs, eqT_symm a b, eqTs_symm l r]
end
mutual
theorem eqS_symm : ∀ a b : ST, eqS a b = eqS b a
  | .mk k x o c t i f e a tx l, .mk k' x' o' c' t' i' f' e' a' tx' l' => by
    rw [eqS, eqS, eqSs_symm l l', eqT_symm i i', eqT_symm a a', Bool.beq_comm (a := k), Bool.beq_comm (a := x), Bool.beq_comm (a := o), Bool.beq_comm (a := c.toList), Bool.beq_comm (a := t.toList), Bool.beq_comm (a := f), Bool.beq_comm (a := e), Bool.beq_comm (a := tx.toList)]
theorem eqSs_symm : ∀ l r : List ST, eqSs l r = eqSs r l
  | [], [] => rfl
  | [], _ :: _ => by simp [eqSs]
  | _ :: _, [] => by simp [eqSs]
  | a :: l, b :: r => by rw [eqSs, eqSs, eqS_symm a b, eqSs_symm l r]
end

/-- States that are lent: the list's own block, then each one's info, ann, inner states, in [lo, hi). -/
def SLent (w : World) (N : Nat) : Nat → Nat → Nat → Value → List ST → Prop
  | 0, _, _, _, _ => False
  | n + 1, lo, hi, v, ss => ∃ b m, v = .slice (some ⟨b, 0, none⟩) ss.length (ss.length + 2) ∧ lo ≤ b ∧ b < m ∧ ss.length ≤ 10000 ∧
      (∀ j, w.frozen? ⟨b, j, none⟩ = false) ∧ (∀ k, k < 2 → ∃ cs : List Value, cs.length = 19 ∧ cs[0]? = some (.int .i64 (-7 - (ss.length + k : Nat))) ∧ Cells w b ((ss.length + k) * 19) cs) ∧
      Chain (fun i l h s => l ≤ h ∧ s.Fine ∧ ∃ il al lv m1 m2, Cells w b (i * 19) (s.cells il al lv) ∧ LentAt w N l m1 il s.info.list ∧ LentAt w N m1 m2 al s.ann.list ∧ SLent w N n m2 h lv s.inner) 0 m hi ss
theorem SLent.le {w : World} {N : Nat} : ∀ {n lo hi : Nat} {v : Value} {ss : List ST}, SLent w N n lo hi v ss → lo < hi
  | 0, _, _, _, _, h => h.elim
  | n + 1, lo, hi, v, ss, ⟨b, m, _, h1, h2, _, _, _, hc⟩ => by
    have := (hc.imp (fun i l h t h => h.1) fun _ _ _ _ _ _ h => h).2
    omega
theorem SLent.apart {x y : Nat} {w w' : World} {N : Nat} (ha : Apart x y w w') : ∀ {n lo hi : Nat} {v : Value} {ss : List ST}, SLent w N n lo hi v ss → hi ≤ w.heap.size → hi ≤ x ∨ y ≤ lo → SLent w' N n lo hi v ss
  | 0, _, _, _, _, h, _, _ => h.elim
  | n + 1, lo, hi, v, ss, ⟨b, m, hv, h1, h2, h3, h4, h5, hc⟩, hs, ho => by
    have hm := (hc.imp (fun i l h t h => h.1) fun _ _ _ _ _ _ h => h).2
    have hb : b < w.heap.size := by omega
    have hbo : b < x ∨ y ≤ b := by omega
    refine ⟨b, m, hv, h1, h2, h3, fun j => (ha.frozen (p := ⟨b, j, none⟩) hb hbo).trans (h4 j), fun k hk => ?_, (hc.imp (fun i l h t h => h.1) ?_).1⟩
    · obtain ⟨cs, c1, c2, c3⟩ := h5 k hk
      exact ⟨cs, c1, c2, c3.apart ha hb hbo⟩
    · rintro i l h t hl hh ⟨e1, e2, il, al, lv, m1, m2, e3, e4, e5, e6⟩
      have l1 := e4.le
      have l2 := e5.le
      have l3 := e6.le
      exact ⟨e1, e2, il, al, lv, m1, m2, e3.apart ha hb hbo, e4.apart ha (by omega) (by omega), e5.apart ha (by omega) (by omega), SLent.apart ha e6 (by omega) (by omega)⟩
theorem SLent.below {w w' : World} {N n lo hi : Nat} {v : Value} {ss : List ST} (h : SLent w N n lo hi v ss) (hs : hi ≤ w.heap.size) (hb : Below w.heap.size w w') : SLent w' N n lo hi v ss :=
  h.apart (x := hi) (y := hi) (Apart.of_below hb (Nat.le_refl _)) hs (.inl (Nat.le_refl _))
theorem SLent.sat {w : World} {B N : Nat} : ∀ {n lo hi : Nat} {v : Value} {ss : List ST}, SLent w N n lo hi v ss → hi ≤ B → SAt B N w n v ss
  | 0, _, _, _, _, h, _ => h.elim
  | n + 1, lo, hi, v, ss, ⟨b, m, hv, h1, h2, h3, h4, h5, hc⟩, hB => by
    have hm := (hc.imp (fun i l h t h => h.1) fun _ _ _ _ _ _ h => h).2
    refine .inr ⟨b, 0, ss.length + 2, hv, by omega, Nat.le_trans h3 (by decide), fun i t ht => ?_⟩
    obtain ⟨l, h, _, hh, _, e2, il, al, lv, m1, m2, e3, e4, e5, e6⟩ := hc.at_ (fun i l h t h => h.1) ht
    rw [Nat.zero_add] at e3 ⊢
    have l1 := e4.le
    have l2 := e5.le
    have l3 := e6.le
    exact ⟨e2, il, al, lv, e3, e4.lat (by omega), e5.lat (by omega), SLent.sat e6 (by omega)⟩
/-- A state that is lent. -/
def SLentV (w : World) (N n lo hi : Nat) (v : Value) (s : ST) : Prop := s.Fine ∧ ∃ il al lv m1 m2, v = s.agg il al lv ∧ LentAt w N lo m1 il s.info.list ∧ LentAt w N m1 m2 al s.ann.list ∧ SLent w N n m2 hi lv s.inner
theorem SLentV.le {w : World} {N n lo hi : Nat} {v : Value} {s : ST} (h : SLentV w N n lo hi v s) : lo < hi := by
  obtain ⟨_, _, _, _, _, _, _, h1, h2, h3⟩ := h
  have := h1.le
  have := h2.le
  have := h3.le
  omega
theorem SLentV.apart {x y : Nat} {w w' : World} {N n lo hi : Nat} {v : Value} {s : ST} (h : SLentV w N n lo hi v s) (ha : Apart x y w w') (hs : hi ≤ w.heap.size) (ho : hi ≤ x ∨ y ≤ lo) : SLentV w' N n lo hi v s := by
  obtain ⟨hf, il, al, lv, m1, m2, hv, h1, h2, h3⟩ := h
  have := h1.le
  have := h2.le
  have := h3.le
  exact ⟨hf, il, al, lv, m1, m2, hv, h1.apart ha (by omega) (by omega), h2.apart ha (by omega) (by omega), h3.apart ha (by omega) (by omega)⟩
theorem SLentV.below {w w' : World} {N n lo hi : Nat} {v : Value} {s : ST} (h : SLentV w N n lo hi v s) (hs : hi ≤ w.heap.size) (hb : Below w.heap.size w w') : SLentV w' N n lo hi v s :=
  h.apart (x := hi) (y := hi) (Apart.of_below hb (Nat.le_refl _)) hs (.inl (Nat.le_refl _))
theorem SLentV.svat {w : World} {B N n lo hi : Nat} {v : Value} {s : ST} (h : SLentV w N n lo hi v s) (hB : hi ≤ B) : SVAt B N w n v s := by
  obtain ⟨hf, il, al, lv, m1, m2, hv, h1, h2, h3⟩ := h
  have := h1.le
  have := h2.le
  have := h3.le
  exact ⟨hf, il, al, lv, hv, h1.lat (by omega), h2.lat (by omega), h3.sat hB⟩
end Go.Proofs.Nu

namespace Go.Proofs.Nu
open Go Go.RowKit

theorem Cells.all {w : World} {b o : Nat} {s : ST} {il al lv : Value} (h : Cells w b o (s.cells il al lv)) :
    w.cell? ⟨b, o, none⟩ = some (.int .i64 s.kind) ∧ w.cell? ⟨b, o + 1, none⟩ = some (.int .i64 s.section_) ∧ w.cell? ⟨b, o + 2, none⟩ = some (.int .i64 s.offset) ∧ w.cell? ⟨b, o + 3, none⟩ = some (.string s.cond) ∧ w.cell? ⟨b, o + 4, none⟩ = some (.string s.text) ∧
    w.cell? ⟨b, o + 5, none⟩ = some (.int .i64 s.info.kind) ∧ w.cell? ⟨b, o + 6, none⟩ = some (.int .u64 s.info.num) ∧ w.cell? ⟨b, o + 7, none⟩ = some (.string s.info.text) ∧ w.cell? ⟨b, o + 8, none⟩ = some il ∧ w.cell? ⟨b, o + 9, none⟩ = some (.int .i64 s.info.elem) ∧
    w.cell? ⟨b, o + 10, none⟩ = some (.bool s.failed) ∧ w.cell? ⟨b, o + 11, none⟩ = some (.bool s.elsewhere) ∧ w.cell? ⟨b, o + 12, none⟩ = some (.int .i64 s.ann.kind) ∧ w.cell? ⟨b, o + 13, none⟩ = some (.int .u64 s.ann.num) ∧ w.cell? ⟨b, o + 14, none⟩ = some (.string s.ann.text) ∧ w.cell? ⟨b, o + 15, none⟩ = some al ∧ w.cell? ⟨b, o + 16, none⟩ = some (.int .i64 s.ann.elem) ∧ w.cell? ⟨b, o + 17, none⟩ = some (.string s.txn) ∧ w.cell? ⟨b, o + 18, none⟩ = some lv :=
  ⟨h 0 _ rfl, h 1 _ rfl, h 2 _ rfl, h 3 _ rfl, h 4 _ rfl, h 5 _ rfl, h 6 _ rfl, h 7 _ rfl, h 8 _ rfl, h 9 _ rfl, h 10 _ rfl, h 11 _ rfl, h 12 _ rfl, h 13 _ rfl, h 14 _ rfl, h 15 _ rfl, h 16 _ rfl, h 17 _ rfl, h 18 _ rfl⟩
theorem Cells.of_heap {w : World} {b : Nat} {cs : List Value} {T : TypeId} {fr : Nat × Nat} (h : w.heap[b]? = some (.cells cs.toArray T fr)) : Cells w b 0 cs := fun j u hu => by
  simp [World.cell?, h, hu]
theorem heap_alloc_new (w : World) (o : Obj) : (w.alloc o).heap[w.heap.size]? = some o := by
  show (w.heap.push o)[w.heap.size]? = some o
  simp
theorem heap_alloc_size (w : World) (o : Obj) : (w.alloc o).heap.size = w.heap.size + 1 := Array.size_push ..
theorem two_blocks {w W : World} {o o' : Obj} (h : (w.alloc o).alloc o' = W) : W.heap[w.heap.size]? = some o ∧ W.heap[w.heap.size + 1]? = some o' ∧ W.heap.size = w.heap.size + 2 ∧ Below w.heap.size w W := by
  subst h
  refine ⟨(Below.heap_alloc _ _ _ (by rw [heap_alloc_size]; omega)).trans (heap_alloc_new _ _), ?_, by rw [heap_alloc_size, heap_alloc_size], ((Below.refl _ _).alloc (Nat.le_refl _) _).alloc (by rw [heap_alloc_size]; omega) _⟩
  rw [← heap_alloc_size w o]
  exact heap_alloc_new _ _
theorem one_block {w W : World} {o : Obj} (h : w.alloc o = W) : W.heap[w.heap.size]? = some o ∧ W.heap.size = w.heap.size + 1 ∧ Below w.heap.size w W := by
  subst h
  exact ⟨heap_alloc_new _ _, heap_alloc_size _ _, (Below.refl _ _).alloc (Nat.le_refl _) _⟩
/-- Two values one behind the other, in a block of their own. -/
theorem pair_lat {w : World} {b N B : Nat} {t0 t1 : VT} {l0 l1 : Value} {T : TypeId} {fr : Nat × Nat} (h : w.heap[b]? = some (.cells #[.int .i64 t0.kind, .int .u64 t0.num, .string t0.text, l0, .int .i64 t0.elem, .int .i64 t1.kind, .int .u64 t1.num, .string t1.text, l1, .int .i64 t1.elem] T fr))
    (hB : b < B) (f0 : t0.Fine) (f1 : t1.Fine) (h0 : LAt B w N l0 t0.list) (h1 : LAt B w N l1 t1.list) : LAt B w (N + 1) (.slice (some ⟨b, 0, none⟩) 2 2) [t0, t1] := by
  have hc : Cells w b 0 [.int .i64 t0.kind, .int .u64 t0.num, .string t0.text, l0, .int .i64 t0.elem, .int .i64 t1.kind, .int .u64 t1.num, .string t1.text, l1, .int .i64 t1.elem] := Cells.of_heap h
  refine .inr ⟨b, 0, 2, rfl, hB, by show 2 ≤ maxLen; decide, fun i t ht => ?_⟩
  match i, ht with
  | 0, ht => cases ht; exact ⟨f0, l0, ⟨hc 0 _ rfl, hc 1 _ rfl, hc 2 _ rfl, hc 3 _ rfl, hc 4 _ rfl⟩, h0⟩
  | 1, ht => cases ht; exact ⟨f1, l1, ⟨hc 5 _ rfl, hc 6 _ rfl, hc 7 _ rfl, hc 8 _ rfl, hc 9 _ rfl⟩, h1⟩
  | i + 2, ht => simp at ht
theorem LAt.up' {B B' : Nat} {w : World} (hB : B ≤ B') {n : Nat} {v : Value} {ts : List VT} (h : LAt B w n v ts) : LAt B' w n v ts := LAt.up hB h
end Go.Proofs.Nu

namespace Go.Proofs.Nu
open Go Go.RowKit

theorem setCells_size (w : World) (b : Nat) : ∀ (vs : List Value) (o : Nat) (w : World), (w.setCells b o vs).heap.size = w.heap.size
  | [], _, _ => rfl
  | v :: r, o, w => by rw [World.setCells, setCells_size w b r]; simp [World.setCell]
theorem setCells_apart {lo hi b : Nat} (h1 : lo ≤ b) (h2 : b < hi) {a : World} : ∀ (vs : List Value) (o : Nat) (w : World), Apart lo hi a w → Apart lo hi a (w.setCells b o vs)
  | [], _, _, h => h
  | v :: r, o, w, h => by rw [World.setCells]; exact setCells_apart h1 h2 r (o + 1) _ (h.setCell (p := ⟨b, o, none⟩) h1 h2 v)
theorem setCells_below {B b : Nat} (h1 : B ≤ b) {a : World} : ∀ (vs : List Value) (o : Nat) (w : World), Below B a w → Below B a (w.setCells b o vs)
  | [], _, _, h => h
  | v :: r, o, w, h => by rw [World.setCells]; exact setCells_below h1 r (o + 1) _ (h.setCell (p := ⟨b, o, none⟩) h1 v)
theorem Has.setCells {w : World} {b m o : Nat} {vs : List Value} (h : Has w b m) (ho : o + vs.length ≤ m) : Has (w.setCells b o vs) b m := fun j hj => by
  by_cases hx : j < o ∨ o + vs.length ≤ j
  · rw [World.cell?_setCells_out b vs o w ⟨b, j, none⟩ (fun _ _ => hx)]
    exact h j hj
  · have := World.cell?_setCells_in b vs o w (fun k hk => by obtain ⟨v, hv⟩ := h (o + k) (by omega); rw [hv]; rfl) (j - o) (by omega)
    rw [show o + (j - o) = j by omega] at this
    exact ⟨_, this⟩
theorem Has.setC {w : World} {b m o : Nat} {vs : List Value} (h : Has w b m) (ho : o + vs.length ≤ m) : Cells (w.setCells b o vs) b o vs := fun j u hu => by
  have hj := (List.getElem?_eq_some_iff.1 hu).1
  have := World.cell?_setCells_in b vs o w (fun k hk => by obtain ⟨v, hv⟩ := h (o + k) (by omega); rw [hv]; rfl) j hj
  rw [this, ← (List.getElem?_eq_some_iff.1 hu).2]
theorem Has.there {w : World} {b m o n : Nat} (h : Has w b m) (hf : ∀ j, w.frozen? ⟨b, j, none⟩ = false) (ho : o + n ≤ m) : w.there b o n := fun j hj => by
  obtain ⟨v, hv⟩ := h (o + j) (by omega)
  exact ⟨by rw [hv]; rfl, hf _⟩
theorem Cells.keep {w w' : World} {b o : Nat} {cs : List Value} (h : Cells w b o cs) (hc : ∀ j, j < cs.length → w'.cell? ⟨b, o + j, none⟩ = w.cell? ⟨b, o + j, none⟩) : Cells w' b o cs := fun j u hu => (hc j (List.getElem?_eq_some_iff.1 hu).1).trans (h j u hu)

/-- One of a lent list's states. -/
def SPart (w : World) (b N n : Nat) (i l h : Nat) (s : ST) : Prop := l ≤ h ∧ s.Fine ∧ ∃ il al lv m1 m2, Cells w b (i * 19) (s.cells il al lv) ∧ LentAt w N l m1 il s.info.list ∧ LentAt w N m1 m2 al s.ann.list ∧ SLent w N n m2 h lv s.inner
theorem scells_len (s : ST) (il al lv : Value) : (s.cells il al lv).length = 19 := rfl
theorem sparts_keep {w w' : World} {b N n i m hi x : Nat} {ts : List ST} (h : Chain (SPart w b N n) i m hi ts) (hc : ∀ j, i * 19 ≤ j → j < (i + ts.length) * 19 → w'.cell? ⟨b, j, none⟩ = w.cell? ⟨b, j, none⟩) (ha : Apart b x w w') (hhi : hi ≤ w.heap.size) (hx : x ≤ m) : Chain (SPart w' b N n) i m hi ts :=
  (h.imp' (fun _ _ _ _ p => p.1) (by
    rintro j l h t hj hj' hl hh ⟨e1, e2, il, al, lv, m1, m2, e3, e4, e5, e6⟩
    have l1 := e4.le
    have l2 := e5.le
    have l3 := e6.le
    exact ⟨e1, e2, il, al, lv, m1, m2, e3.keep (fun k hk => hc _ (by omega) (by rw [scells_len] at hk; omega)), e4.apart ha (by omega) (by omega), e5.apart ha (by omega) (by omega), e6.apart ha (by omega) (by omega)⟩)).1

/-- Where lentState stands in front of its round j. -/
structure SRel (b0 : Nat) (w wr : World) (N n j : Nat) (ss : List ST) : Prop where
  below : Below b0 w wr
  lt : w.heap.size < wr.heap.size
  ge : b0 ≤ w.heap.size
  keep : Below w.heap.size w wr
  has : Has wr w.heap.size ((ss.length + 2) * 19)
  froz : ∀ o, wr.frozen? ⟨w.heap.size, o, none⟩ = false
  parts : Chain (SPart wr w.heap.size N n) 0 (w.heap.size + 1) wr.heap.size (ss.take j)
  marks : ∀ k, ss.length ≤ k → k < j → ∃ cs : List Value, cs.length = 19 ∧ cs[0]? = some (.int .i64 (-7 - (k : Nat))) ∧ Cells wr w.heap.size (k * 19) cs
theorem SRel.start {w : World} {N n : Nat} {ss : List ST} {C : Array Value} {T : TypeId} (hC : C.size = (ss.length + 2) * 19) : SRel w.heap.size w (w.alloc (.cells C T)) N n 0 ss := by
  obtain ⟨h1, h2, h3⟩ := one_block (w := w) (o := .cells C T) rfl
  refine ⟨h3, by omega, Nat.le_refl _, h3, fun j hj => ?_, fun o => World.frozen?_alloc_new _ _ _ _, ?_, fun k _ hk => by omega⟩
  · rw [World.cell?_alloc_new]
    exact ⟨_, Array.getElem?_eq_getElem (by omega)⟩
  · exact h2.symm
theorem SRel.mark {b0 : Nat} {w wr : World} {N n j : Nat} {ss : List ST} {cs : List Value} (h : SRel b0 w wr N n j ss) (hj : ss.length ≤ j) (hj3 : j < ss.length + 2) (hl : cs.length = 19) (h0 : cs[0]? = some (.int .i64 (-7 - (j : Nat)))) : SRel b0 w (wr.setCells w.heap.size (j * 19) cs) N n (j + 1) ss := by
  have hz := setCells_size wr w.heap.size cs (j * 19) wr
  refine ⟨setCells_below h.ge _ _ _ h.below, by rw [hz]; exact h.lt, h.ge, setCells_below (Nat.le_refl _) _ _ _ h.keep, h.has.setCells (by omega), fun o => (World.frozen?_setCells _ _ _ _ _).trans (h.froz o), ?_, fun k hk hk' => ?_⟩
  · rw [List.take_of_length_le (by omega)]
    have hp := h.parts
    rw [List.take_of_length_le (by omega)] at hp
    rw [hz]
    exact sparts_keep hp (fun o ho ho' => World.cell?_setCells_out _ _ _ _ _ (fun _ _ => .inl (by show o < j * 19; omega))) (setCells_apart (Nat.le_refl _) (Nat.lt_succ_self _) _ _ _ (Apart.refl _ _ _)) (Nat.le_refl _) (Nat.le_refl _)
  · by_cases e : k = j
    · subst e; exact ⟨cs, hl, h0, h.has.setC (by omega)⟩
    · obtain ⟨cs', c1, c2, c3⟩ := h.marks k hk (by omega)
      exact ⟨cs', c1, c2, c3.keep (fun i hi => World.cell?_setCells_out _ _ _ _ _ (fun _ _ => .inl (by show k * 19 + i < j * 19; omega)))⟩
theorem SRel.part {b0 : Nat} {w wr w2 : World} {N n j : Nat} {ss : List ST} {s : ST} {il al lv : Value} {m1 m2 : Nat} {cs : List Value} (h : SRel b0 w wr N n j ss) (hs : ss[j]? = some s) (hf : s.Fine) (hl : cs.length = 19)
    (hb : Below (wr.setCells w.heap.size (j * 19) cs).heap.size (wr.setCells w.heap.size (j * 19) cs) w2)
    (e4 : LentAt w2 N (wr.setCells w.heap.size (j * 19) cs).heap.size m1 il s.info.list) (e5 : LentAt w2 N m1 m2 al s.ann.list) (e6 : SLent w2 N n m2 w2.heap.size lv s.inner) :
    SRel b0 w (w2.setCells w.heap.size (j * 19) (s.cells il al lv)) N n (j + 1) ss := by
  have hj : j < ss.length := (List.getElem?_eq_some_iff.1 hs).1
  have hlt := h.lt
  have hge := h.ge
  have hz1 := setCells_size wr w.heap.size cs (j * 19) wr
  have hz2 := setCells_size w2 w.heap.size (s.cells il al lv) (j * 19) w2
  have hs2 := hb.size
  rw [hz1] at hb e4 hs2
  have l1 := e4.le
  have l2 := e5.le
  have l3 := e6.le
  have has2 : Has w2 w.heap.size ((ss.length + 2) * 19) := (h.has.setCells (o := j * 19) (vs := cs) (by omega)).below hb hlt
  have ha0 : Apart w.heap.size (w.heap.size + 1) w2 (w2.setCells w.heap.size (j * 19) (s.cells il al lv)) := setCells_apart (Nat.le_refl _) (Nat.lt_succ_self _) _ _ _ (Apart.refl _ _ _)
  refine ⟨setCells_below hge _ _ _ ((setCells_below hge _ _ _ h.below).trans (hb.mono (by omega))), by rw [hz2]; omega, hge, setCells_below (Nat.le_refl _) _ _ _ ((setCells_below (Nat.le_refl _) _ _ _ h.keep).trans (hb.mono (by omega))), has2.setCells (by rw [scells_len]; omega), fun o => (World.frozen?_setCells _ _ _ _ _).trans ((hb.frozen (p := ⟨_, o, none⟩) hlt).trans ((World.frozen?_setCells _ _ _ _ _).trans (h.froz o))), ?_, fun k hk hk' => by omega⟩
  rw [take_snoc hs, hz2]
  refine Chain.snoc (mid := wr.heap.size) ?_ ?_
  · have ha : Apart w.heap.size (w.heap.size + 1) wr (w2.setCells w.heap.size (j * 19) (s.cells il al lv)) :=
      ((setCells_apart (Nat.le_refl _) (Nat.lt_succ_self _) cs (j * 19) wr (Apart.refl _ _ _)).trans (Apart.of_below hb (by rw [hz1]; exact Nat.le_refl _))).trans ha0
    refine sparts_keep h.parts (fun o ho ho' => ?_) ha (Nat.le_refl _) (Nat.le_refl _)
    rw [take_len (by omega)] at ho'
    rw [World.cell?_setCells_out _ _ _ _ _ (fun _ _ => .inl (by show o < j * 19; omega)), hb.cell (p := ⟨w.heap.size, o, none⟩) hlt, World.cell?_setCells_out _ _ _ _ _ (fun _ _ => .inl (by show o < j * 19; omega))]
  · rw [take_len (by omega), Nat.zero_add]
    refine ⟨by omega, hf, il, al, lv, m1, m2, has2.setC (by rw [scells_len]; omega), e4.apart ha0 (by omega) (.inr (by omega)), e5.apart ha0 (by omega) (.inr (by omega)), e6.apart ha0 (by omega) (.inr (by omega))⟩
theorem SRel.done {b0 : Nat} {w wr : World} {N n : Nat} {ss : List ST} (h : SRel b0 w wr N n (ss.length + 2) ss) (hl : ss.length ≤ 10000) : SLent wr N (n + 1) w.heap.size wr.heap.size (.slice (some ⟨w.heap.size, 0, none⟩) ss.length (ss.length + 2)) ss := by
  have hp := h.parts
  rw [List.take_of_length_le (by omega)] at hp
  exact ⟨w.heap.size, w.heap.size + 1, rfl, Nat.le_refl _, Nat.lt_succ_self _, hl, h.froz, fun k hk => h.marks _ (by omega) (by omega), hp⟩
end Go.Proofs.Nu

namespace Go.Proofs.Nu
open Go Go.RowKit

/-- Where keptState stands in front of its round j. -/
structure KRel (w wr : World) (N n b lo hi j : Nat) (ss : List ST) : Prop where
  apart : Apart lo hi w wr
  has : Has wr b ((ss.length + 2) * 19)
  froz : ∀ o, wr.frozen? ⟨b, o, none⟩ = false
  parts : ∃ mid, b < mid ∧ Chain (SPart wr b N n) j mid hi (ss.drop j)
  marks : ∀ k, ss.length ≤ k → k < ss.length + 2 → j ≤ k → ∃ cs : List Value, cs.length = 19 ∧ cs[0]? = some (.int .i64 (-7 - (k : Nat))) ∧ Cells wr b (k * 19) cs
theorem has_of_cells {w : World} {b m : Nat} (h : ∀ k, k < m → ∃ cs : List Value, cs.length = 19 ∧ Cells w b (k * 19) cs) : Has w b (m * 19) := fun j hj => by
  obtain ⟨cs, h1, h2⟩ := h (j / 19) (by omega)
  have hlt : j % 19 < cs.length := by omega
  have := h2 (j % 19) _ (List.getElem?_eq_getElem hlt)
  rw [show j / 19 * 19 + j % 19 = j by omega] at this
  exact ⟨_, this⟩
theorem slent_open {w : World} {N n lo hi : Nat} {v : Value} {ss : List ST} (h : SLent w N (n + 1) lo hi v ss) : ∃ b, v = .slice (some ⟨b, 0, none⟩) ss.length (ss.length + 2) ∧ lo ≤ b ∧ b < hi ∧ ss.length ≤ 10000 ∧ KRel w w N n b lo hi 0 ss := by
  obtain ⟨b, m, hv, h1, h2, h3, h4, h5, hc⟩ := h
  have hm := (hc.imp (fun i l h t h => h.1) fun _ _ _ _ _ _ h => h).2
  have hmk : ∀ k, ss.length ≤ k → k < ss.length + 2 → ∃ cs : List Value, cs.length = 19 ∧ cs[0]? = some (.int .i64 (-7 - (k : Nat))) ∧ Cells w b (k * 19) cs := fun k hk hk' => by
    have := h5 (k - ss.length) (by omega)
    rwa [show ss.length + (k - ss.length) = k by omega] at this
  refine ⟨b, hv, h1, by omega, h3, Apart.refl _ _ _, has_of_cells fun k hk => ?_, h4, ⟨m, h2, hc⟩, fun k hk hk' _ => hmk k hk hk'⟩
  by_cases hkl : k < ss.length
  · obtain ⟨x, y, _, _, _, _, il, al, lv, m1, m2, e, _⟩ := hc.at_ (fun i l h t h => h.1) (k := k) (List.getElem?_eq_getElem hkl)
    rw [Nat.zero_add] at e
    exact ⟨_, scells_len _ _ _ _, e⟩
  · obtain ⟨cs, c1, _, c3⟩ := hmk k (by omega) hk
    exact ⟨cs, c1, c3⟩
theorem KRel.head {w wr : World} {N n b lo hi j : Nat} {ss : List ST} {t : ST} (h : KRel w wr N n b lo hi j ss) (ht : ss[j]? = some t) (hlo : lo ≤ b) (hbs : hi ≤ w.heap.size) :
    ∃ x y il al lv m1 m2, b < x ∧ y ≤ hi ∧ t.Fine ∧ Cells wr b (j * 19) (t.cells il al lv) ∧ LentAt wr N x m1 il t.info.list ∧ LentAt wr N m1 m2 al t.ann.list ∧ SLent wr N n m2 y lv t.inner ∧
      ∀ w2, Apart x y wr w2 → ∀ cs : List Value, cs.length = 19 → KRel w (w2.setCells b (j * 19) cs) N n b lo hi (j + 1) ss := by
  obtain ⟨mid, hm, hc⟩ := h.parts
  have hj : j < ss.length := (List.getElem?_eq_some_iff.1 ht).1
  rw [drop_cons_at ht] at hc
  obtain ⟨y, ⟨h1, hf, il, al, lv, m1, m2, ha, hl1, hl2, hl3⟩, hc2⟩ := hc
  have hy := (hc2.imp (fun i l h t h => h.1) fun _ _ _ _ _ _ h => h).2
  have hs := h.apart.size
  have l1 := hl1.le
  have l2 := hl2.le
  have l3 := hl3.le
  have hb : b < wr.heap.size := by omega
  refine ⟨mid, y, il, al, lv, m1, m2, hm, hy, hf, ha, hl1, hl2, hl3, fun w2 ha2 cs hcs => ?_⟩
  have hs2 := ha2.size
  have c2 : ∀ o, w2.cell? ⟨b, o, none⟩ = wr.cell? ⟨b, o, none⟩ := fun o => ha2.cell (p := ⟨b, o, none⟩) hb (.inl hm)
  have has2 : Has w2 b ((ss.length + 2) * 19) := h.has.apart ha2 hb (.inl hm)
  have ha3 : Apart b (b + 1) w2 (w2.setCells b (j * 19) cs) := setCells_apart (Nat.le_refl _) (Nat.lt_succ_self _) _ _ _ (Apart.refl _ _ _)
  refine ⟨(h.apart.trans (ha2.wide (by omega) hy)).trans (ha3.wide hlo (by omega)), has2.setCells (by omega), fun o => (World.frozen?_setCells _ _ _ _ _).trans ((ha2.frozen (p := ⟨b, o, none⟩) hb (.inl hm)).trans (h.froz o)), ⟨y, by omega, ?_⟩, fun k hk hk' hjk => ?_⟩
  · have h2 : Chain (SPart w2 b N n) (j + 1) y hi (ss.drop (j + 1)) := (hc2.imp (fun i l h t h => h.1) (by
      rintro i x1 x2 t' hx1 hx2 ⟨p1, p2, il2, al2, lv2, q1, q2, p3, p4, p5, p6⟩
      have e1 := p4.le
      have e2 := p5.le
      have e3 := p6.le
      exact ⟨p1, p2, il2, al2, lv2, q1, q2, p3.keep (fun k _ => c2 _), p4.apart ha2 (by omega) (.inr (by omega)), p5.apart ha2 (by omega) (.inr (by omega)), p6.apart ha2 (by omega) (.inr (by omega))⟩)).1
    exact sparts_keep h2 (fun o ho _ => World.cell?_setCells_out _ _ _ _ _ (fun _ _ => .inr (by show j * 19 + cs.length ≤ o; omega))) ha3 (by omega) (by omega)
  · obtain ⟨ds, d1, d2, d3⟩ := h.marks k hk hk' (by omega)
    exact ⟨ds, d1, d2, d3.keep (fun i hi => (World.cell?_setCells_out _ _ _ _ _ (fun _ _ => .inr (by show j * 19 + cs.length ≤ k * 19 + i; omega))).trans (c2 _))⟩
theorem KRel.mark {w wr : World} {N n b lo hi j : Nat} {ss : List ST} {cs : List Value} (h : KRel w wr N n b lo hi j ss) (hj : ss.length ≤ j) (hj3 : j < ss.length + 2) (hlo : lo ≤ b) (hbh : b < hi) (hcs : cs.length = 19) : KRel w (wr.setCells b (j * 19) cs) N n b lo hi (j + 1) ss := by
  obtain ⟨mid, hm, hc⟩ := h.parts
  rw [List.drop_eq_nil_of_le hj] at hc
  have ha3 : Apart b (b + 1) wr (wr.setCells b (j * 19) cs) := setCells_apart (Nat.le_refl _) (Nat.lt_succ_self _) _ _ _ (Apart.refl _ _ _)
  refine ⟨h.apart.trans (ha3.wide hlo (by omega)), h.has.setCells (by omega), fun o => (World.frozen?_setCells _ _ _ _ _).trans (h.froz o), ⟨mid, hm, by rw [List.drop_eq_nil_of_le (by omega)]; exact hc⟩, fun k hk hk' hjk => ?_⟩
  obtain ⟨ds, d1, d2, d3⟩ := h.marks k hk hk' (by omega)
  exact ⟨ds, d1, d2, d3.keep (fun i hi => World.cell?_setCells_out _ _ _ _ _ (fun _ _ => .inr (by show j * 19 + cs.length ≤ k * 19 + i; omega)))⟩
end Go.Proofs.Nu
