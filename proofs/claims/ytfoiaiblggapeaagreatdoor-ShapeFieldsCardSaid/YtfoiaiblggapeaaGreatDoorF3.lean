/-
  fieldsOwned, the plain part: what lies in memory while fields and kinds are written full and grown. No condition.
-/
import Derived.Test.YtfoiaiblggapeaaGreatDoorF2
namespace Go.Proofs.YtfoiaiblggapeaaGreatDoor.Fd
open Go Go.RowKit Go.Proofs.Nu Go.Proofs.YtfoiaiblggapeaaGreatDoor.Va

abbrev FK := Sum Nat Nat
def patF : FK → List Value
  | .inl t => [.int .i64 (-1000 - (t : Int))]
  | .inr i => [.string ⟨#[]⟩, .int .i64 (-1000 - (i : Int)), .slice none 0 0, .bool false, .int .i64 0, .int .u64 0, .string ⟨#[]⟩, .slice none 0 0, .int .i64 0]
theorem patK_len (t : Nat) : (patF (.inl t)).length = 1 := rfl
theorem patV_len (i : Nat) : (patF (.inr i)).length = 9 := rfl
theorem patF_one (f : FK) : ∀ u ∈ patF f, u.oneCell' = true := by
  cases f <;> intro u hu <;> simp only [patF, List.mem_cons, List.not_mem_nil, or_false] at hu
  · subst hu; rfl
  · rcases hu with h | h | h | h | h | h | h | h | h <;> subst h <;> rfl

/-- What holds between two steps: rows that are read, families written so far. -/
structure Inv (own0 : OwnF FK) (W : World) (B : Nat) (vs ks gk gg : List Value) (a b : Nat → Nat) (R : List (Value × List Value)) (own : OwnF FK) (w : World) : Prop where
  st : OStep patF own0 W own w none
  WB : W.heap.size ≤ B
  Bw : B ≤ w.heap.size
  rows : ∀ x ∈ R, RowR B own w x.1 x.2
  vf : ∀ (i : Nat) (v : Value), vs[i]? = some v → Fam patF own w (.inr i) (a i) 1000 v
  kf : ∀ (t : Nat) (v : Value), ks[t]? = some v → Fam patF own w (.inl t) (b t) 1000 v
  gkf : ∀ (t : Nat) (v : Value), gk[t]? = some v → Fam patF own w (.inl (t / 8)) 2000 2000 v
  ggf : ∀ (t : Nat) (v : Value), gg[t]? = some v → Fam patF own w (.inr (t / 8)) 2000 2000 v
section
variable {own0 own own' : OwnF FK} {W w w' : World} {B : Nat} {vs ks gk gg : List Value} {a b : Nat → Nat} {R : List (Value × List Value)} {row : Option Nat}
theorem Inv.step (h : Inv own0 W B vs ks gk gg a b R own w) (k : OStep patF own w own' w' row) (hr : ∀ r, row = some r → B ≤ r) : Inv own0 W B vs ks gk gg a b R own' w' :=
  ⟨h.st.transRow k (fun r e => Nat.le_trans h.WB (hr r e)), h.WB, Nat.le_trans h.Bw k.size, fun x hx => (h.rows x hx).step k h.Bw hr, fun i v hv => k.fam _ _ _ _ (h.vf i v hv), fun i v hv => k.fam _ _ _ _ (h.kf i v hv), fun i v hv => k.fam _ _ _ _ (h.gkf i v hv), fun i v hv => k.fam _ _ _ _ (h.ggf i v hv)⟩
theorem Inv.dom (h : Inv own0 W B vs ks gk gg a b R own w) : ∀ b x, own b = some x → b < w.heap.size := h.st.dom
/-- A new block. -/
theorem Inv.alloc (h : Inv own0 W B vs ks gk gg a b R own w) (o : Obj) : Inv own0 W B vs ks gk gg a b R own (w.alloc o) := h.step (OStep.grown h.dom (grown_alloc w o) (fun _ e => by cases e)) (fun _ e => by cases e)
/-- A row that was grown becomes one that is read. -/
theorem Inv.raise (h : Inv own0 W B vs ks gk gg a b R own w) {e : TypeId} {v : Value} {xs : List Value} (ho : w.ownsRow B e 1 v xs.length xs) (hn : ∀ b, v.ownBlock = some b → own b = none) : Inv own0 W w.heap.size vs ks gk gg a b ((v, xs) :: R) own w :=
  ⟨h.st, Nat.le_trans h.WB h.Bw, Nat.le_refl _, fun x hx => by
    rcases List.mem_cons.1 hx with rfl | hx
    · exact RowR.of_row ho hn
    · exact (h.rows x hx).raise h.Bw, h.vf, h.kf, h.gkf, h.ggf⟩
/-- A kind is written over. -/
theorem Inv.storeK (h : Inv own0 W B vs ks gk gg a b R own w) {t k : Nat} {g off n c : Nat} (hv : ks[t]? = some (.slice (some ⟨g, off, none⟩) n c)) (hb : b t = k) (hk : k < n) {b' : Nat → Nat} (h1 : b' t = k + 1) (h2 : ∀ s, s ≠ t → b' s = b s) :
    Inv own0 W B vs ks gk gg a b' R own (w.setCell ⟨g, off + k, none⟩ (.int .i64 (-1000 - (t : Int)))) := by
  have hf := h.kf t _ hv
  rcases hf with h0 | ⟨g', off', n', c', e, hown, hnc, hnN, hth, hm⟩
  · cases h0
  cases e
  have hst := OStep.write h.dom hown hth (k := k) (by omega)
  have e : w.setCells g (off + k * (patF (.inl t)).length) (patF (.inl t)) = w.setCell ⟨g, off + k, none⟩ (.int .i64 (-1000 - (t : Int))) := by rw [patK_len, Nat.mul_one]; rfl
  have hI := h.step hst (fun _ e => by cases e)
  rw [e] at hI
  refine ⟨hI.st, hI.WB, hI.Bw, hI.rows, hI.vf, fun s v hs => ?_, hI.gkf, hI.ggf⟩
  by_cases hst : s = t
  · subst hst
    rw [hv] at hs
    cases hs
    rw [h1, ← e]
    have := Fam.next (h.kf s _ hv) (by omega : b s < n)
    rw [hb] at this
    exact this
  · rw [h2 s hst]; exact hI.kf s v hs
theorem Inv.storeV (h : Inv own0 W B vs ks gk gg a b R own w) {t k : Nat} {g off n c : Nat} (hv : vs[t]? = some (.slice (some ⟨g, off, none⟩) n c)) (hb : a t = k) (hk : k < n) {a' : Nat → Nat} (h1 : a' t = k + 1) (h2 : ∀ s, s ≠ t → a' s = a s) :
    Inv own0 W B vs ks gk gg a' b R own (w.setCells g (off + k * 9) (patF (.inr t))) := by
  have hf := h.vf t _ hv
  rcases hf with h0 | ⟨g', off', n', c', e, hown, hnc, hnN, hth, hm⟩
  · cases h0
  cases e
  have hst := OStep.write h.dom hown hth (k := k) (by omega)
  have hI := h.step hst (fun _ e => by cases e)
  rw [patV_len] at hI
  refine ⟨hI.st, hI.WB, hI.Bw, hI.rows, fun s v hs => ?_, hI.kf, hI.gkf, hI.ggf⟩
  by_cases hst : s = t
  · subst hst
    rw [hv] at hs
    cases hs
    rw [h1]
    have := Fam.next (h.vf s _ hv) (by omega : a s < n)
    rw [hb, patV_len] at this
    exact this
  · rw [h2 s hst]; exact hI.vf s v hs
/-- What is written full. -/
theorem Inv.fullK (h : Inv own0 W B vs ks gk gg a b R own w) {t k : Nat} {p : Option Addr} {n c : Nat} (hv : ks[t]? = some (.slice p n c)) (hb : b t = k) (hk : n ≤ k) {b' : Nat → Nat} (h2 : ∀ s, s ≠ t → b' s = b s) : Inv own0 W B vs ks gk gg a b' R own w := by
  refine ⟨h.st, h.WB, h.Bw, h.rows, h.vf, fun s v hs => ?_, h.gkf, h.ggf⟩
  by_cases hst : s = t
  · subst hst
    rw [hv] at hs
    cases hs
    exact (h.kf s _ hv).full (by omega)
  · rw [h2 s hst]; exact h.kf s v hs
theorem Inv.fullV (h : Inv own0 W B vs ks gk gg a b R own w) {t k : Nat} {p : Option Addr} {n c : Nat} (hv : vs[t]? = some (.slice p n c)) (hb : a t = k) (hk : n ≤ k) {a' : Nat → Nat} (h2 : ∀ s, s ≠ t → a' s = a s) : Inv own0 W B vs ks gk gg a' b R own w := by
  refine ⟨h.st, h.WB, h.Bw, h.rows, fun s v hs => ?_, h.kf, h.gkf, h.ggf⟩
  by_cases hst : s = t
  · subst hst
    rw [hv] at hs
    cases hs
    exact (h.vf s _ hv).full (by omega)
  · rw [h2 s hst]; exact h.vf s v hs
theorem Inv.chgK (h : Inv own0 W B vs ks gk gg a b R own w) {b' : Nat → Nat} (h2 : ∀ s, s < ks.length → b' s = b s) : Inv own0 W B vs ks gk gg a b' R own w :=
  ⟨h.st, h.WB, h.Bw, h.rows, h.vf, fun s v hs => by rw [h2 s (List.getElem?_eq_some_iff.1 hs).1]; exact h.kf s v hs, h.gkf, h.ggf⟩
theorem Inv.chgV (h : Inv own0 W B vs ks gk gg a b R own w) {a' : Nat → Nat} (h2 : ∀ s, s < vs.length → a' s = a s) : Inv own0 W B vs ks gk gg a' b R own w :=
  ⟨h.st, h.WB, h.Bw, h.rows, fun s v hs => by rw [h2 s (List.getElem?_eq_some_iff.1 hs).1]; exact h.vf s v hs, h.kf, h.gkf, h.ggf⟩
/-- One more of the grown ones. -/
theorem Inv.pushK (h : Inv own0 W B vs ks gk gg a b R own w) {x : Value} {t N : Nat} (hx : Fam patF own w (.inl t) N N x) (hN : N ≤ 2000) (ht : gk.length / 8 = t) : Inv own0 W B vs ks (gk ++ [x]) gg a b R own w :=
  ⟨h.st, h.WB, h.Bw, h.rows, h.vf, h.kf, fun s v hs => by
    rcases Nat.lt_or_ge s gk.length with hlt | hge
    · rw [List.getElem?_append_left hlt] at hs; exact h.gkf s v hs
    · rw [List.getElem?_append_right hge] at hs
      have : s - gk.length = 0 := by have := (List.getElem?_eq_some_iff.1 hs).1; simp at this; omega
      rw [this] at hs
      simp at hs
      subst hs
      obtain rfl : s = gk.length := by omega
      rw [ht]
      exact hx.to (Nat.le_refl _) hN _, h.ggf⟩
theorem Inv.pushV (h : Inv own0 W B vs ks gk gg a b R own w) {x : Value} {t N : Nat} (hx : Fam patF own w (.inr t) N N x) (hN : N ≤ 2000) (ht : gg.length / 8 = t) : Inv own0 W B vs ks gk (gg ++ [x]) a b R own w :=
  ⟨h.st, h.WB, h.Bw, h.rows, h.vf, h.kf, h.gkf, fun s v hs => by
    rcases Nat.lt_or_ge s gg.length with hlt | hge
    · rw [List.getElem?_append_left hlt] at hs; exact h.ggf s v hs
    · rw [List.getElem?_append_right hge] at hs
      have : s - gg.length = 0 := by have := (List.getElem?_eq_some_iff.1 hs).1; simp at this; omega
      rw [this] at hs
      simp at hs
      subst hs
      obtain rfl : s = gg.length := by omega
      rw [ht]
      exact hx.to (Nat.le_refl _) hN _⟩
end
theorem Inv.at {own0 own : OwnF FK} {W w : World} {B : Nat} {vs ks gk gg : List Value} {a b : Nat → Nat} {R : List (Value × List Value)} (h : Inv own0 W B vs ks gk gg a b R own w) {p : Option Addr} {n c : Nat} {xs : List Value} (hm : (Value.slice p n c, xs) ∈ R) {t : Nat} {x : Value} (hx : xs[t]? = some x) :
    ∃ kb, p = some ⟨kb, 0, none⟩ ∧ w.cell? ⟨kb, t, none⟩ = some x := by
  obtain ⟨p', c', e, h2⟩ := h.rows _ hm
  simp only [Value.slice.injEq] at e
  obtain ⟨rfl, _, _⟩ := e
  obtain ⟨kb, e, _, _, hc⟩ := h2 t x hx
  exact ⟨kb, e, hc⟩
theorem field_new (w : World) (T : TypeId) (i : Nat) : ∀ j u, (patF (.inr i))[j]? = some u → (w.alloc (.cells #[.string ⟨#[]⟩, .int .i64 (-1000 - (i : Int)), .slice none 0 0, .bool false, .int .i64 0, .int .u64 0, .string ⟨#[]⟩, .slice none 0 0, .int .i64 0] T)).cell? ((⟨w.heap.size, 0, none⟩ : Addr).add j) = some u := fun j u hu => by
  rw [Addr.add_mid, Nat.zero_add, World.cell?_alloc_new]
  simpa [patF] using hu
/-- A row that grows, beside the families. -/
def GR (B : Nat) (e : TypeId) (own : OwnF FK) (w : World) (v : Value) (xs : List Value) : Prop := w.ownsRow B e 1 v xs.length xs ∧ ∀ b, v.ownBlock = some b → own b = none
section
variable {own0 own own' : OwnF FK} {W w w' : World} {B : Nat} {vs ks gk gg : List Value} {a b : Nat → Nat} {R : List (Value × List Value)} {row : Option Nat} {e : TypeId} {v v' : Value} {xs : List Value}
theorem GR.new : GR B e own w (.slice none 0 0) [] := ⟨World.ownsRow_nil _ _ _ _, fun b h => by simp [Value.ownBlock] at h⟩
theorem GR.blk (h : GR B e own w v xs) {x : Nat} (hx : v.ownBlock = some x) : B ≤ x ∧ x < w.heap.size ∧ own x = none := ⟨(World.ownsRow.lt h.1 x hx).1, (World.ownsRow.lt h.1 x hx).2, h.2 x hx⟩
theorem GR.step (h : GR B e own w v xs) (k : OStep patF own w own' w' none) : GR B e own' w' v xs := by
  refine ⟨?_, fun x hx => (k.old x (h.blk hx).2.1).trans (h.2 x hx)⟩
  obtain ⟨hl, h1⟩ := h.1
  refine ⟨hl, ?_⟩
  rcases h1 with h1 | ⟨g, cap, cur, rfl, hb, hg, r⟩
  · exact .inl h1
  · have hbk := h.blk (x := g) rfl
    exact .inr ⟨g, cap, cur, rfl, hb, (k.kept g hbk.2.1 hbk.2.2 (by simp)).trans hg, r⟩
theorem GR.alloc (h : GR B e own w v xs) (hd : ∀ b x, own b = some x → b < w.heap.size) (o : Obj) : GR B e own (w.alloc o) v xs := h.step (OStep.grown hd (grown_alloc w o) (fun _ e => by cases e))
/-- The row has taken one more: what that is to the families. -/
theorem GR.more (h : GR B e own w v xs) (hd : ∀ b x, own b = some x → b < w.heap.size) {x : Value} (ho : w'.ownsRow B e 1 v' (xs.length + 1) (xs ++ [x])) (hg : w.grownBy w' v.ownBlock) (hat : v'.ownBlock = v.ownBlock ∨ v'.ownBlock = some w.heap.size) :
    GR B e own w' v' (xs ++ [x]) ∧ OStep patF own w own w' v.ownBlock := by
  refine ⟨⟨by simpa using ho, fun b hb => ?_⟩, OStep.grown hd hg fun k hk => h.2 k hk⟩
  rcases hat with hat | hat
  · exact h.2 b (hat ▸ hb)
  · rw [hat] at hb
    cases hb
    cases hh : own w.heap.size with
    | none => rfl
    | some x => have := hd _ _ hh; omega
theorem Inv.stepRow (h : Inv own0 W B vs ks gk gg a b R own w) (hr : GR B e own w v xs) (k : OStep patF own w own' w' v.ownBlock) : Inv own0 W B vs ks gk gg a b R own' w' := h.step k fun _ hx => (hr.blk hx).1
end
theorem flatten_get : ∀ {l : List (List Value)} {i : Nat} {r : List Value}, l[i]? = some r → ∀ k, k < r.length → l.flatten[(l.take i).flatten.length + k]? = r[k]?
  | [], i, r, h, _, _ => by simp at h
  | x :: l, 0, r, h, k, hk => by
    simp at h; subst h
    rw [List.take_zero, List.flatten_nil, List.length_nil, Nat.zero_add, List.flatten_cons, List.getElem?_append_left hk]
  | x :: l, i + 1, r, h, k, hk => by
    have := flatten_get (l := l) (i := i) (by simpa using h) k hk
    rw [List.take_succ_cons, List.flatten_cons, List.flatten_cons, List.length_append, List.getElem?_append_right (by omega), ← this]
    congr 1; omega
theorem flatten_take : ∀ {l : List (List Value)} {i : Nat} {r : List Value}, l[i]? = some r → (l.take (i + 1)).flatten.length = (l.take i).flatten.length + r.length
  | [], i, r, h => by simp at h
  | x :: l, 0, r, h => by simp at h; subst h; simp
  | x :: l, i + 1, r, h => by
    have := flatten_take (l := l) (i := i) (by simpa using h)
    rw [List.take_succ_cons, List.take_succ_cons, List.flatten_cons, List.flatten_cons, List.length_append, List.length_append, this]; omega
theorem take_snoc {l : List Value} {t : Nat} {x : Value} (h : l[t]? = some x) : l.take t ++ [x] = l.take (t + 1) := by
  rw [List.take_add_one, h]; rfl
end Go.Proofs.YtfoiaiblggapeaaGreatDoor.Fd
