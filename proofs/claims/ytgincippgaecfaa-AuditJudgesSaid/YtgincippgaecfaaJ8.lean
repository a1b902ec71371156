/-
  A row of names of the call's own that is cut at its head and grows at its end. No program's code in sight.
-/
import Derived.Test.YtgincippgaecfaaJ6
import Derived.Test.YtgincippgaecfaaJ3
import Derived.Deep.Upon
namespace Go.Proofs.Ytgincippgaecfaa.Au
open Go Go.RowKit

/-- The slice value holds the names; its cells are the call's own (from block base on). -/
def Nx (base : Nat) (W : World) (v : Value) (l : List ByteArray) : Prop :=
  ∃ g off cap, v = .slice (some ⟨g, off, none⟩) l.length cap ∧ base ≤ g ∧ g < W.heap.size ∧ l.length ≤ cap ∧ cap ≤ maxLen ∧ (∀ (j : Nat) (x : ByteArray), l[j]? = some x → W.cell? ⟨g, off + j, none⟩ = some (.string x)) ∧
    ∀ j, j < cap → (W.cell? ⟨g, off + j, none⟩).isSome = true ∧ W.frozen? ⟨g, off + j, none⟩ = false

theorem Nx.kept {base : Nat} {W W' : World} {v : Value} {l : List ByteArray} (h : Nx base W v l) (hk : ∀ g, base ≤ g → g < W.heap.size → W'.heap[g]? = W.heap[g]?) (hs : W.heap.size ≤ W'.heap.size) : Nx base W' v l := by
  obtain ⟨g, off, cap, rfl, h1, h2, h3, h4, h5, h6⟩ := h
  have hb := hk g h1 h2
  exact ⟨g, off, cap, rfl, h1, Nat.lt_of_lt_of_le h2 hs, h3, h4, fun j x hx => (World.cell?_of_block (a := ⟨g, off + j, none⟩) hb).trans (h5 j x hx), fun j hj => ⟨by rw [World.cell?_of_block (a := ⟨g, off + j, none⟩) hb]; exact (h6 j hj).1, (World.frozen?_of_block (a := ⟨g, off + j, none⟩) hb).trans (h6 j hj).2⟩⟩
theorem Nx.grown {base : Nat} {W W' : World} {v : Value} {l : List ByteArray} {row : Option Nat} (h : Nx base W v l) (hg : W.grownBy W' row) (hr : ∀ r, row = some r → r < base) : Nx base W' v l :=
  h.kept (fun g h1 h2 => hg.block g h2 fun e => by have := hr g e.symm; omega) hg.size
theorem Nx.start (W : World) (s : ByteArray) {base : Nat} (hb : base ≤ W.heap.size) : Nx base (W.alloc (.cells #[.string s] 9 (0, 0))) (.slice (some ⟨W.heap.size, 0, none⟩) 1 1) [s] := by
  refine ⟨W.heap.size, 0, 1, rfl, hb, by simp, Nat.le_refl _, by unfold maxLen; omega, fun j x hx => ?_, fun j hj => ?_⟩
  · match j with
    | 0 => simp at hx; subst hx; simp
    | j + 1 => simp at hx
  · obtain rfl : j = 0 := by omega
    constructor
    · simp
    · exact World.frozen?_alloc_new W _ _ _
theorem Nx.next {base : Nat} {W : World} {g off cap : Nat} {x : ByteArray} {l : List ByteArray} (h : Nx base W (.slice (some ⟨g, off, none⟩) (l.length + 1) cap) (x :: l)) : Nx base W (.slice (some ⟨g, off + 1, none⟩) l.length (cap - 1)) l := by
  obtain ⟨g', off', cap', e, h1, h2, h3, h4, h5, h6⟩ := h
  simp only [Value.slice.injEq, Option.some.injEq, Addr.mk.injEq] at e
  obtain ⟨⟨rfl, rfl, _⟩, _, rfl⟩ := e
  simp only [List.length_cons] at h3
  refine ⟨g, off + 1, cap - 1, rfl, h1, h2, by omega, by omega, fun j y hy => ?_, fun j hj => ?_⟩
  · have := h5 (j + 1) y hy
    rwa [show off + (j + 1) = off + 1 + j by omega] at this
  · have := h6 (j + 1) (by omega)
    rwa [show off + (j + 1) = off + 1 + j by omega] at this

theorem grown_setJ (W : World) (g o : Nat) (v : Value) : W.grownBy (W.setCell ⟨g, o, none⟩ v) (some g) :=
  ⟨rfl, rfl, rfl, (KeepsWalks.setCell W _ v).size, fun k _ hk => Below.heap_setCell _ _ _ k (fun e => hk (by rw [e]))⟩

/-- One name more. -/
theorem Nx.push {base : Nat} {W : World} {v : Value} {l : List ByteArray} (h : Nx base W v l) (hb : base ≤ W.heap.size) (ab ao : Nat) (x : ByteArray) (hx : W.cell? ⟨ab, ao, none⟩ = some (.string x)) (ty : TypeId) (i : TypeInfo) (hi : Try.prog.info? 9 = some i) (hz0 : i.zero = some (.string ⟨#[]⟩)) (hz1 : i.size = 1) (hz2 : i.bytes = 16)
    (hm : l.length + 1 ≤ 3000000000000) : ∃ v' W', (Builtin.append_ #[67, 67] ty #[v, .slice (some ⟨ab, ao, none⟩) 1 1]).run Try.prog W = .ok v' W' ∧ Nx base W' v' (l ++ [x]) ∧ ∃ g, base ≤ g ∧ W.grownBy W' (some g) := by
  obtain ⟨g, off, cap, rfl, h1, h2, h3, h4, h5, h6⟩ := h
  have hs : Src Try.prog i.size 67 (.slice (some ⟨ab, ao, none⟩) 1 1) 1 [.string x] W := Src.ofSlice W Try.underlying67 ⟨ab, ao, none⟩ 1 1 [.string x] (by simp [hz1]) (fun j u hu => by
    match j with
    | 0 => simp at hu; subst hu; rw [Addr.add_lit, Nat.add_zero]; exact hx
    | j + 1 => simp at hu) (by simp [Value.oneCell'])
  by_cases hroom : l.length + 1 ≤ cap
  · have hl6 := h6 l.length (by omega)
    have hr := run_append_room_src (P := Try.prog) W 67 67 ty 9 i Try.underlying67 hi g off l.length cap _ 1 [.string x] hs hroom
      (fun j hj => by
        obtain rfl : j = 0 := by simpa using hj
        rw [hz1, Nat.mul_one, Nat.add_zero]; exact hl6.1)
      (fun j hj => by
        obtain rfl : j = 0 := by simpa using hj
        rw [hz1, Nat.mul_one, Nat.add_zero]; exact hl6.2)
    rw [hz1, Nat.mul_one] at hr
    have hw : W.setCells g (off + l.length) [.string x] = W.setCell ⟨g, off + l.length, none⟩ (.string x) := rfl
    rw [hw] at hr
    refine ⟨_, _, hr, ⟨g, off, cap, by simp, h1, Nat.lt_of_lt_of_le h2 (grown_setJ W g _ _).size, by simpa using hroom, h4, fun j y hy => ?_, fun j hj => ?_⟩, g, h1, grown_setJ W g _ _⟩
    · by_cases hj : j = l.length
      · subst hj
        simp at hy; subst hy
        exact World.cell?_setCell_same' _ _ _ hl6.1
      · rw [World.cell?_setCell_other _ _ _ _ (fun e => hj (by have h9 : off + l.length = off + j := congrArg Addr.off e; omega))]
        have hjl : j < l.length := by
          have := (List.getElem?_eq_some_iff.1 hy).1
          simp at this; omega
        rw [List.getElem?_append_left hjl] at hy
        exact h5 j y hy
    · refine ⟨?_, by rw [World.frozen?_setCell]; exact (h6 j hj).2⟩
      by_cases hj2 : j = l.length
      · subst hj2
        rw [World.cell?_setCell_same' _ _ _ hl6.1]; rfl
      · rw [World.cell?_setCell_other _ _ _ _ (fun e => hj2 (by have h9 : off + l.length = off + j := congrArg Addr.off e; omega))]
        exact (h6 j hj).1
  · have hcap : cap = l.length := by omega
    subst hcap
    have hold := run_firstCells_some (P := Try.prog) (w := W.drew) i.size l.length ⟨g, off, none⟩ l.length l.length (l.map Value.string) (by simp [hz1]) (fun j u hu => by
      rw [List.getElem?_map] at hu
      cases hy : l[j]? with
      | none => rw [hy] at hu; cases hu
      | some y =>
        rw [hy] at hu
        simp at hu; subst hu
        rw [Addr.add_lit]
        exact h5 j y hy)
    have hr := run_append_grow_src (P := Try.prog) W 67 67 ty 9 i _ Try.underlying67 hi hz0 (some ⟨g, off, none⟩) l.length l.length (l.map Value.string) hold _ 1 [.string x] hs (by omega) (by omega)
      (growslice_fits (by omega) (by rw [hz2]; omega))
    have hge := grownCap_ge W (l.length + 1) l.length 9
    have hcm := grownCap_le_maxLen W (l.length + 1) l.length 9 (by unfold maxLen; omega)
    refine ⟨_, _, hr, ⟨W.heap.size, 0, _, by simp, hb, by simp, by simpa using hge, hcm, fun j y hy => ?_, fun j hj => ?_⟩, W.heap.size, hb, rfl, rfl, rfl, by simp, fun k hk _ => Below.heap_alloc W.drew _ k hk⟩
    · rw [Nat.zero_add]
      have e1 := World.cell?_alloc_new W.drew (((l.map Value.string) ++ [Value.string x]).toArray ++ Builtin.zeroCells (Value.string ⟨#[]⟩).cells (grownCap W (l.length + 1) l.length 9 - (l.length + 1))) 9 j
      refine e1.trans ?_
      have hjl := (List.getElem?_eq_some_iff.1 hy).1
      rw [Array.getElem?_append_left (by simpa using hjl), List.getElem?_toArray]
      rw [show (l.map Value.string) ++ [Value.string x] = (l ++ [x]).map Value.string by simp, List.getElem?_map, hy]
      rfl
    · rw [Nat.zero_add]
      have e1 := World.cell?_alloc_new W.drew (((l.map Value.string) ++ [Value.string x]).toArray ++ Builtin.zeroCells (Value.string ⟨#[]⟩).cells (grownCap W (l.length + 1) l.length 9 - (l.length + 1))) 9 j
      refine ⟨?_, World.frozen?_alloc_new W.drew _ _ _⟩
      refine (congrArg Option.isSome e1).trans ?_
      have hsz : (((l.map Value.string) ++ [Value.string x]).toArray ++ Builtin.zeroCells (Value.string ⟨#[]⟩).cells (grownCap W (l.length + 1) l.length 9 - (l.length + 1))).size = grownCap W (l.length + 1) l.length 9 := by
        rw [Array.size_append, size_zeroCells]
        simp [Value.cells]
        omega
      rw [Array.getElem?_eq_getElem (by rw [hsz]; exact hj)]
      rfl

theorem wpList_append_nx (W : World) {ops : Array Oper} {rest : List Oper} {o : Oper} {a : Act} {Q : Exit → Act → World → Prop} (hgd : o.guard = none) (s x : Operand)
    (ho : o.op = .call { callee := .builtin .append, args := #[s, x], argTypes := #[67, 67] }) {base : Nat} {v : Value} {l : List ByteArray} (hv : a.eval s = v) (h : Nx base W v l) (hb : base ≤ W.heap.size)
    (ab ao : Nat) (y : ByteArray) (hx : a.eval x = .slice (some ⟨ab, ao, none⟩) 1 1) (hy : W.cell? ⟨ab, ao, none⟩ = some (.string y)) (i : TypeInfo) (hi : Try.prog.info? 9 = some i) (hz0 : i.zero = some (.string ⟨#[]⟩)) (hz1 : i.size = 1) (hz2 : i.bytes = 16)
    (hm : l.length + 1 ≤ 3000000000000) (hK : ∀ v' W', Nx base W' v' (l ++ [y]) → (∃ g, base ≤ g ∧ W.grownBy W' (some g)) → wpList Try.prog ops Q rest (a.put o.dst v') W') : wpList Try.prog ops Q (o :: rest) a W := by
  refine wpList_plain hgd fun K hK' => ?_
  obtain ⟨v', w', hrun, r1, r2⟩ := h.push hb ab ao y hy o.type i hi hz0 hz1 hz2 hm
  unfold Oper.wp
  simp [execOp, ho, resolve, invoke, builtin, hv, hx, hrun, Result.andThen]
  exact hK' _ _ (hK v' w' r1 r2)

end Go.Proofs.Ytgincippgaecfaa.Au
