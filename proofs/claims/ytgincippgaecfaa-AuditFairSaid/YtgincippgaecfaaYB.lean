/-
  The turns as an argument; the small world's does, whatever the turn; what the law's plain part says. No condition but the sizes.
-/
import Derived.Test.YtgincippgaecfaaYP
import Derived.Test.YtgincippgaecfaaF2
namespace Go.Proofs.Ytgincippgaecfaa.Au
open Go Go.RowKit Go.ChangeShapes Go.WideShapes Go.Deep

/-- A turn. -/
structure Trn where
  kind : Int
  who : Int
  n : Int
  flag : Bool
def Trn.cells (c : Trn) : List Value := [.int .i64 c.kind, .int .i64 c.who, .int .i64 c.n, .bool c.flag]
def Trn.fine (c : Trn) : Prop := -9223372036854775808 ≤ c.n ∧ c.n ≤ 9223372036854775807

structure TrnAt (W : World) (b o : Nat) (c : Trn) : Prop where
  kind : W.cell? ⟨b, o, none⟩ = some (.int .i64 c.kind)
  who : W.cell? ⟨b, o + 1, none⟩ = some (.int .i64 c.who)
  n : W.cell? ⟨b, o + 2, none⟩ = some (.int .i64 c.n)
  flag : W.cell? ⟨b, o + 3, none⟩ = some (.bool c.flag)

theorem TrnAt.below {n : Nat} {A B : World} (h : Below n A B) {b o : Nat} {c : Trn} (hb : b < n) (k : TrnAt A b o c) : TrnAt B b o c :=
  ⟨(h.cell (p := ⟨b, o, none⟩) hb).trans k.kind, (h.cell (p := ⟨b, o + 1, none⟩) hb).trans k.who, (h.cell (p := ⟨b, o + 2, none⟩) hb).trans k.n, (h.cell (p := ⟨b, o + 3, none⟩) hb).trans k.flag⟩

/-- A slice holds the turns. -/
def TurnsAt (n : Nat) (W : World) (sv : Value) (ts : List Trn) : Prop :=
  (∃ p c, sv = .slice p 0 c ∧ ts = []) ∨ ∃ b off cap, sv = .slice (some ⟨b, off, none⟩) ts.length cap ∧ b < n ∧ ∀ (i : Nat) (c : Trn), ts[i]? = some c → TrnAt W b (off + i * 4) c
theorem TurnsAt.below {n : Nat} {A B : World} (h : Below n A B) {sv : Value} {ts : List Trn} : TurnsAt n A sv ts → TurnsAt n B sv ts
  | .inl e => .inl e
  | .inr ⟨b, off, cap, e, hb, hc⟩ => .inr ⟨b, off, cap, e, hb, fun i x hx => (hc i x hx).below h hb⟩
theorem TurnsAt.len {n : Nat} {w : World} {sv : Value} {ts : List Trn} (h : TurnsAt n w sv ts) : ∃ a cap, sv = .slice a ts.length cap := by
  rcases h with ⟨p, c, rfl, rfl⟩ | ⟨b, off, cap, rfl, _, _⟩
  · exact ⟨_, _, rfl⟩
  · exact ⟨_, _, rfl⟩
theorem TurnsAt.at_ {n : Nat} {w : World} {a : Option Addr} {cap k : Nat} {ts : List Trn} {c : Trn} (h : TurnsAt n w (.slice a ts.length cap) ts) (hc : ts[k]? = some c) : ∃ b off, a = some ⟨b, off, none⟩ ∧ b < n ∧ TrnAt w b (off + k * 4) c := by
  rcases h with ⟨p, c', _, rfl⟩ | ⟨b, off, cap, e, hb, hq⟩
  · simp at hc
  · simp only [Value.slice.injEq] at e
    exact ⟨b, off, e.1, hb, hq k _ hc⟩
theorem in64 {n : Int} (h : (Lit.int .i64 n).wf = true) : -9223372036854775808 ≤ n ∧ n ≤ 9223372036854775807 := by
  simp [Lit.wf, IntKind.min, IntKind.max, IntKind.signed, IntKind.bits] at h
  omega

section
variable {H : Type} {enc : TypeId × Value → H} {w : World} {base : Nat} {spare : Nat → Bool} {held : Bool}

noncomputable def fields51 : Array Field := match Try.prog.underlying 51 with | some (.struct fs) => fs | _ => #[]
theorem under51 : Try.prog.underlying 51 = some (.struct fields51) := by kernel_rfl
theorem size51 : fields51.size = 4 := by kernel_rfl
theorem cells51 : Try.prog.cellsOf 51 = 4 := by kernel_rfl
theorem bytes51 : Try.prog.bytesOf 51 = 32 := by kernel_rfl
theorem one51 : oneCellFields Try.prog fields51 = true := by kernel_rfl
theorem types51 : fields51.toList.map (·.type) = [3, 3, 3, 4] := by kernel_rfl

theorem field51 (j : Nat) (t : TypeId) (h : [3, 3, 3, 4][j]? = some t) : ∃ f : Field, fields51[j]? = some f ∧ f.type = t := by
  rw [← types51, List.getElem?_map] at h
  rw [Array.getElem?_toList] at h
  cases hf : fields51[j]? with
  | none => rw [hf] at h; cases h
  | some f => rw [hf] at h; exact ⟨f, rfl, by simpa using h⟩




set_option maxRecDepth 100000 in
theorem open_turn {cs : List Value} {n : Nat} {x : DataW H × List MemPlace} (h : DataW.trod enc Try.prog w base spare held n 51 cs = some x) (hl : cs.length = 4) :
    ∃ c : Trn, cs = c.cells ∧ c.fine := by
  obtain ⟨ys, n', hn', hy, hlen, hyl, hf⟩ := DataW.trod_struct under51 h
  have one : ∀ (j : Nat) (t : TypeId), [3, 3, 3, 4][j]? = some t → ∃ v y, cs[j]? = some v ∧ DataW.trod enc Try.prog w base spare held n' t [v] = some y := by
    intro j t ht
    obtain ⟨f, hj, rfl⟩ := field51 j t ht
    obtain ⟨ho, hk⟩ := hone_of one51 j f hj
    have hjl : j < 4 := by rw [← size51]; exact (Array.getElem?_eq_some_iff.1 hj).1
    have h1 := hf j f hj
    rw [ho, hk] at h1
    have hone' : (cs.drop j).take 1 = [cs[j]'(by omega)] := by
      rw [List.drop_eq_getElem_cons (by omega)]
      rfl
    rw [hone'] at h1
    have hys : ys[j]? = some (ys[j]'(by rw [hyl, size51]; omega)) := List.getElem?_eq_getElem _
    exact ⟨_, _, List.getElem?_eq_getElem (by omega), h1.trans hys⟩
  obtain ⟨v0, y0, e0, t0⟩ := one 0 3 rfl
  obtain ⟨v1, y1, e1, t1⟩ := one 1 3 rfl
  obtain ⟨v2, y2, e2, t2⟩ := one 2 3 rfl
  obtain ⟨v3, y3, e3, t3⟩ := one 3 4 rfl
  obtain ⟨k0, hk0, _, w0⟩ := DataW.trod_int Try.underlying3 t0
  obtain ⟨k1, hk1, _, w1⟩ := DataW.trod_int Try.underlying3 t1
  obtain ⟨k2, hk2, _, w2⟩ := DataW.trod_int Try.underlying3 t2
  obtain ⟨k3, hk3, _⟩ := DataW.trod_bool Try.underlying4 t3
  simp only [List.cons.injEq, and_true] at hk0 hk1 hk2 hk3
  subst hk0 hk1 hk2 hk3
  refine ⟨⟨k0, k1, k2, k3⟩, ?_, in64 w2⟩
  match cs, hl with
  | [a0, a1, a2, a3], _ =>
    simp at e0 e1 e2 e3
    simp [Trn.cells, e0, e1, e2, e3]

/-- THE ARGUMENT OPENED. -/
theorem open_turns {fuel : Nat} {cs : List Value} {x : DataW H × List MemPlace} (h : DataW.trod enc Try.prog w base spare held fuel 44 cs = some x) :
    ∃ (sv : Value) (es : List Trn), cs = [sv] ∧ TurnsAt w.heap.size w sv es ∧ (∀ e ∈ es, e.fine) ∧ (∀ p c, sv = .slice p es.length c → es.length ≤ c) ∧ ((x.1 = .nil ∧ es = []) ∨ ∃ l r, x.1 = .slice l r ∧ l.length = es.length) := by
  rcases open_slice Try.underlying44 h with ⟨rfl, rfl⟩ | ⟨a, len, cap, m, n, D, Pl, hcs, hb, hl, hm, hmm, hx, hi⟩
  · exact ⟨_, [], rfl, .inl ⟨_, _, rfl, rfl⟩, by simp, fun _ _ _ => Nat.zero_le _, .inl ⟨rfl, rfl⟩⟩
  · subst hcs
    rcases Nat.eq_zero_or_pos len with h0 | hpos
    · subst h0
      exact ⟨_, [], rfl, .inl ⟨_, _, rfl, rfl⟩, by simp, fun _ _ _ => Nat.zero_le _, .inr ⟨_, _, by rw [hx], by simp⟩⟩
    · have hlm : len ≤ m := by rw [hmm]; split <;> omega
      obtain ⟨es, hel, hes⟩ := list_of (Q := fun i e => (∀ j u, e.cells[j]? = some u → w.cell? (a.add (i * 4 + j)) = some u) ∧ Trn.fine e) len fun i him => by
        obtain ⟨cs', hc, ht'⟩ := hi i (by omega)
        rw [cells51] at hc
        obtain ⟨_, hcl, hat⟩ := World.cells?_some hc
        obtain ⟨e, rfl, f1⟩ := open_turn ht' hcl
        refine ⟨e, fun j u hu => ?_, f1⟩
        have hj : j < 4 := by
          have := (List.getElem?_eq_some_iff.1 hu).1
          simpa [Trn.cells] using this
        rw [← Go.Deep.add_add, hat j hj]
        simpa [Trn.cells] using hu
      have hsp : a.spot = none := by
        obtain ⟨e, he⟩ : ∃ e, es[0]? = some e := ⟨_, List.getElem?_eq_getElem (by omega)⟩
        have := (hes 0 e he).1 0 (.int .i64 e.kind) rfl
        simpa [Addr.add] using World.cell?_spot this
      obtain ⟨b, off, spot⟩ := a
      simp only at hsp
      subst hsp
      have hat : ∀ i e, es[i]? = some e → TrnAt w b (off + i * 4) e := fun i e he => by
        have hh := (hes i e he).1
        have k : ∀ j u, e.cells[j]? = some u → w.cell? ⟨b, off + i * 4 + j, none⟩ = some u := fun j u hu => by
          have := hh j u hu
          rwa [add_plain, show off + (i * 4 + j) = off + i * 4 + j by omega] at this
        exact ⟨k 0 _ rfl, k 1 _ rfl, k 2 _ rfl, k 3 _ rfl⟩
      refine ⟨_, es, rfl, .inr ⟨b, off, cap, by rw [hel], ?_, hat⟩, fun e he => ?_, fun p c e => ?_, .inr ⟨_, _, by rw [hx], by simp [hel]⟩⟩
      · obtain ⟨e, he⟩ : ∃ e, es[0]? = some e := ⟨_, List.getElem?_eq_getElem (by omega)⟩
        exact World.block_lt_of_cell? _ _ (hat 0 e he).kind
      · obtain ⟨i, hi', rfl⟩ := List.getElem_of_mem he
        exact (hes i _ (List.getElem?_eq_getElem hi')).2
      · simp only [Value.slice.injEq] at e
        rw [hel, ← e.2.2]; exact hl
end


/-- ONE TURN, whatever it is. -/
theorem does_any (B : Nat) (w0 : World) (wb : Nat) (all : List Item) (h : List Ent) (va vh : Value) (W : World) (H : WS B w0 wb (all.length : Int) all h va vh W) (hl : h.length ≤ 900) (hla : all.length ≤ 900) (hC : CountOk all h) (c : Trn) (hc : c.fine) :
    Calls Try.prog 19 #[.pointer (some ⟨wb, 0, none⟩), .agg #[.int .i64 c.kind, .int .i64 c.who, .int .i64 c.n, .bool c.flag]] W (DoesPost B w0 wb all h) := by
  obtain ⟨a, capa, rfl⟩ := H.form
  have h6 := rem6 c.kind
  have h7 : (wrap64 (c.kind.tmod 6 + 6)).tmod 6 = 0 ∨ (wrap64 (c.kind.tmod 6 + 6)).tmod 6 = 1 ∨ (wrap64 (c.kind.tmod 6 + 6)).tmod 6 = 2 ∨ (wrap64 (c.kind.tmod 6 + 6)).tmod 6 = 3 ∨ (wrap64 (c.kind.tmod 6 + 6)).tmod 6 = 4 ∨ (wrap64 (c.kind.tmod 6 + 6)).tmod 6 = 5 := by omega
  rcases h7 with h7 | h7 | h7 | h7 | h7 | h7
  · exact does_send B w0 wb all h _ vh W H hl hla _ _ _ _ hc.1 hc.2 h7
  · exact does_tell B w0 wb all h a capa vh W H hl hla _ _ _ _ hc.1 hc.2 h7
  · exact does_get B w0 wb all h a capa vh W H hl hla _ _ _ _ hc.1 hc.2 h7
  · exact does_answer B w0 wb all h a capa vh W H hl hla _ _ _ _ hc.1 hc.2 h7
  · exact does_back B w0 wb all h a capa vh W H hl hla _ _ _ _ hc.1 hc.2 h7 hC
  · exact does_crash B w0 wb all h a capa vh W H hl hla _ _ _ _ hc.1 hc.2 h7

/-- All that holds of the world between two turns. -/
structure Good (all : List Item) (h : List Ent) : Prop where
  inv : Inv all h
  nn : NonNeg h
  cnt : CountOk all h
  len : all.length ≤ h.length
  most : h.length ≤ 390

theorem Good.start : Good [] [] := ⟨Inv.start, NonNeg.start, CountOk.start, Nat.le_refl _, by simp⟩
theorem Good.move {all all' : List Item} {h h' : List Ent} (G : Good all h) (hl : h.length < 390) (M : Move all h all' h') : Good all' h' := by
  have hle := G.len
  obtain ⟨h1, h2, h3, h4⟩ := G.inv.move G.nn (G.inv.entOk (by omega) (by omega)) M
  refine ⟨h1, h2, G.cnt.move M, ?_, by omega⟩
  cases M <;> (try simp only [List.length_append, List.length_singleton, List.length_set, List.length_map]) <;> omega

theorem Good.ok {all : List Item} {h : List Ent} (G : Good all h) : ∀ e ∈ h, EntOk e := G.inv.entOk (by have := G.len; have := G.most; omega) (by have := G.most; omega)
theorem EntOk.fineQ {e : Ent} (h : EntOk e) : e.fineQ := ⟨h.msg, h.count, WalkArith.wf_i64 (by have := okE_kind h.ok; omega), h.who, h.queue⟩
theorem Good.fineQ {all : List Item} {h : List Ent} (G : Good all h) : ∀ e ∈ h, e.fineQ := fun e he => (G.ok e he).fineQ
theorem worldQ_fine : ∀ c ∈ worldQ, c.fine := by
  intro c hc
  simp only [worldQ, List.mem_cons, List.not_mem_nil, or_false] at hc
  rcases hc with rfl | rfl
  · exact ⟨of_decide_eq_true (by kernel_rfl), of_decide_eq_true (by kernel_rfl)⟩
  · exact ⟨of_decide_eq_true (by kernel_rfl), of_decide_eq_true (by kernel_rfl)⟩
theorem Good.judge {all : List Item} {h : List Ent} (G : Good all h) : judgeAns worldQ h = .tuple #[.int .i64 (-1), .int .i64 0, .int .i64 0] := by
  rw [judgeAns_good (G.inv.hist (by have := G.most; omega)), G.inv.judge]
  rfl

/-- An entry that can't be, and what is wrong with it. -/
structure Odd (h : List Ent) (e : Ent) (n : Int) : Prop where
  ans : judgeAns worldQ (h ++ [e]) = .tuple #[.int .i64 (h.length : Int), .int .i64 n, .int .i64 0]
  fine : e.fineQ
theorem Good.odd {all : List Item} {h : List Ent} (G : Good all h) {e : Ent} {n : Nat} (hok : okE e = true) (hw : wrongL worldQ h e = n) (hn : n ≠ 0) (hf : e.fineQ) : Odd h e n := by
  obtain ⟨h1, h2⟩ := G.inv.odd (by have := G.most; omega) hok hw hn
  exact ⟨by rw [judgeAns_good h1, h2], hf⟩

def firstOdds (n : Nat) : List Ent := [odd1 n, odd2 n, odd3 n]
def moreOdds (d : Bool) : List Ent := [odd4 d, odd5 d, odd6 d]
def odds (all : List Item) : List Ent := match all with | [] => firstOdds 0 | x :: l => firstOdds (l.length + 1) ++ moreOdds x.durable
def oddWants (all : List Item) : List Int := match all with | [] => [1, 2, 6] | _ :: _ => [1, 2, 6, 3, 4, 5]

theorem Good.odds1 {all : List Item} {h : List Ent} (G : Good all h) : Odd h (odd1 all.length) 1 ∧ Odd h (odd2 all.length) 2 ∧ Odd h (odd3 all.length) 6 := by
  have hl := G.len
  have hm := G.most
  have hq := qQ_size
  have hf : ∀ k : Int, 1 ≤ k → k ≤ 7 → (⟨k, 1, qQ, (all.length : Int) + 1, 0, false⟩ : Ent).fineQ := fun k h1 h7 =>
    ⟨WalkArith.wf_i64 (by simp only; omega), WalkArith.wf_i64 (by simp only; omega), WalkArith.wf_i64 (by simp only; omega), WalkArith.wf_i64 (by simp only; omega), by unfold maxLen; simp only; omega⟩
  obtain ⟨a1, b1⟩ := G.inv.odd1 G.ok
  obtain ⟨a2, b2⟩ := G.inv.odd2
  obtain ⟨a3, b3⟩ := G.inv.odd3
  exact ⟨G.odd a1 b1 (by decide) (hf 2 (by omega) (by omega)), G.odd a2 b2 (by decide) (hf 4 (by omega) (by omega)), G.odd a3 b3 (by decide) (hf 5 (by omega) (by omega))⟩
theorem Good.odds2 {all : List Item} {h : List Ent} (G : Good all h) {x : Item} (hx : all[0]? = some x) : Odd h (odd4 x.durable) 3 ∧ Odd h (odd5 x.durable) 4 ∧ Odd h (odd6 x.durable) 5 := by
  have hm := G.most
  have hq := qQ_size
  have ho : qO.size ≤ 100 := of_decide_eq_true (by kernel_rfl)
  have hf : ∀ (q : ByteArray) (c : Int) (d : Bool), q.size ≤ 100 → 0 ≤ c → c ≤ 1000 → (⟨4, 1, q, 1, c, d⟩ : Ent).fineQ := fun q c d h1 h2 h3 =>
    ⟨WalkArith.wf_i64 (by simp only; omega), WalkArith.wf_i64 (by simp only; omega), WalkArith.wf_i64 (by simp only; omega), WalkArith.wf_i64 (by simp only; omega), by unfold maxLen; simp only; omega⟩
  obtain ⟨⟨a1, b1⟩, ⟨a2, b2⟩, a3, b3⟩ := G.inv.odds hx (by omega)
  exact ⟨G.odd a1 b1 (by decide) (hf _ _ _ ho (by omega) (by omega)), G.odd a2 b2 (by decide) (hf _ _ _ hq (by omega) (by omega)), G.odd a3 b3 (by decide) (hf _ _ _ hq (by omega) (by omega))⟩

end Go.Proofs.Ytgincippgaecfaa.Au
