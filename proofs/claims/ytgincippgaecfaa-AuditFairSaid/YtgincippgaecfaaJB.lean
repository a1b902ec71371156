/-
  J7: The program's HasPrefix, CutPrefix and over: their walks.
  J8: A row of names of the call's own that is cut at its head and grows at its end. No program's code in sight.
  J9: What the program's leads walks over: the Deads of the configurations in a map; how often names are met. No program's code in sight.
  J10: What the program's leads walks over, round by round. No program's code in sight.
  J11: The program's leads: its walk. No condition but the reach.
-/
import Derived.Test.YtgincippgaecfaaJ6
import Derived.Test.YtgincippgaecfaaJA
import Derived.Deep.RegionHeld3
import Derived.Deep.DrawnRows
import Derived.Deep.AppendLies
import Derived.Deep.Upon
import Derived.Deep.QuietTactic
import Derived.BigQuiet
namespace Go.Proofs.Ytgincippgaecfaa.Au
open Go Go.RowKit
attribute [local go_sem ↓] Go.wp_at_zero Go.wp_at_succ

set_option maxRecDepth 100000 in
set_option maxHeartbeats 1000000 in
theorem prefix81_any (s h : ByteArray) (w : World) :
    Calls Try.prog 81 #[.string s, .string h] w fun r w' => r = .returned (.bool (beginsB s.toList h.toList)) ∧ w' = w := by
  go_enter Try.func81, Try.ntmps81
  by_cases hl : h.size ≤ s.size
  · go_wp2
    go_ret
    exact ⟨ret_bool beginsB_take.symm, rfl⟩
  · go_wp2
    go_ret
    exact ⟨ret_bool (beginsB_short hl).symm, rfl⟩

set_option maxRecDepth 100000 in
set_option maxHeartbeats 1000000 in
theorem prefix53_any (s h : ByteArray) (w : World) :
    Calls Try.prog 53 #[.string s, .string h] w fun r w' => r = .returned (.bool (beginsB s.toList h.toList)) ∧ w' = w := by
  go_enter Try.func53, Try.ntmps53
  go_wp2_with (go_at_call 81; refine (prefix81_any _ _ _).mono ?_; rintro r w2 ⟨rfl, hw2⟩; cases hw2)
  go_ret
  exact ⟨rfl, rfl⟩

theorem Grow.drew (W : World) (row : Option Nat) : W.grownBy W.drew row := ⟨rfl, rfl, rfl, Nat.le_refl _, fun _ _ _ => rfl⟩

def cutA (s h : ByteArray) : ByteArray := if beginsB s.toList h.toList = true then s.extract h.size s.size else s

set_option maxRecDepth 100000 in
set_option maxHeartbeats 1000000 in
theorem cut91_any (s h : ByteArray) (w : World) :
    Calls Try.prog 91 #[.string s, .string h] w fun r w' => r = .returned (.tuple #[.string (cutA s h), .bool (beginsB s.toList h.toList)]) ∧ w' = w := by
  have hc := prefix81_any s h w
  unfold cutA
  have hsz : beginsB s.toList h.toList = true → h.size ≤ s.size := beginsB_size
  cases hb : beginsB s.toList h.toList with
  | true =>
    rw [hb] at hc
    have hl := hsz hb
    clear hsz hb
    go_enter Try.func91, Try.ntmps91
    go_wp2_with (first
      | (go_at_call 81; refine hc.mono ?_; rintro r w2 ⟨rfl, hw2⟩; cases hw2)
      | go_in)
    go_ret2
    exact ⟨rfl, rfl⟩
  | false =>
    rw [hb] at hc
    clear hsz hb
    go_enter Try.func91, Try.ntmps91
    go_wp2_with (first
      | (go_at_call 81; refine hc.mono ?_; rintro r w2 ⟨rfl, hw2⟩; cases hw2)
      | go_in)
    go_ret2
    exact ⟨rfl, rfl⟩

set_option maxRecDepth 100000 in
set_option maxHeartbeats 1000000 in
theorem cut82_any (s h : ByteArray) (w : World) :
    Calls Try.prog 82 #[.string s, .string h] w fun r w' => r = .returned (.tuple #[.string (cutA s h), .bool (beginsB s.toList h.toList)]) ∧ w' = w := by
  have hc := cut91_any s h w
  go_enter Try.func82, Try.ntmps82
  go_wp2_with (first
    | (go_at_call 91; refine hc.mono ?_; rintro r w2 ⟨rfl, hw2⟩; cases hw2)
    | go_in)
  go_ret2
  exact ⟨rfl, rfl⟩

set_option maxRecDepth 100000 in
set_option maxHeartbeats 1000000 in
theorem over_zero (b n : Nat) (f : Value → Value) (k who m c : Int) (q : ByteArray) (d : Bool) (w : World) (h : MapV w 55 b n (.int .i64 0) f) (hx : KeyOk 55 (.agg #[.int .i64 k, .int .i64 who, .string q, .int .i64 m, .int .i64 c, .bool d])) (hf : f (.agg #[.int .i64 k, .int .i64 who, .string q, .int .i64 m, .int .i64 c, .bool d]) = .int .i64 0) :
    Calls Try.prog 38 #[.map (some b), .agg #[.int .i64 k, .int .i64 who, .string q, .int .i64 m, .int .i64 c, .bool d]] w fun r w' => r = .returned (.bool false) ∧ Below w.heap.size w w' := by
  have hl := fun o : Obj => (h.alloc o).look keyed55 Try.underlying61 (zero3 _) hx
  rw [hf] at hl
  have hlk := hl (.cells #[.int .i64 k, .int .i64 who, .string q, .int .i64 m, .int .i64 c, .bool d] 55 (0, 0))
  clear hl
  go_enter Try.func38, Try.ntmps38
  go_wp2
  go_ret
  exact ⟨rfl, (Below.refl _ _).alloc (Nat.le_refl _) _⟩

set_option maxRecDepth 100000 in
set_option maxHeartbeats 4000000 in
theorem over_some (b n : Nat) (f : Value → Value) (k who m c x : Int) (q : ByteArray) (d : Bool) (w : World) (h : MapV w 55 b n (.int .i64 0) f) (hn : n < maxLen) (hk : KeyOk 55 (.agg #[.int .i64 k, .int .i64 who, .string q, .int .i64 m, .int .i64 c, .bool d])) (hf : f (.agg #[.int .i64 k, .int .i64 who, .string q, .int .i64 m, .int .i64 c, .bool d]) = .int .i64 x) (hx0 : 0 < x) (hx1 : x ≤ 1000) :
    Calls Try.prog 38 #[.map (some b), .agg #[.int .i64 k, .int .i64 who, .string q, .int .i64 m, .int .i64 c, .bool d]] w fun r w' => r = .returned (.bool true) ∧ w.grownBy w' (some b) ∧
      ∀ f', f' (.agg #[.int .i64 k, .int .i64 who, .string q, .int .i64 m, .int .i64 c, .bool d]) = .int .i64 (x - 1) → (∀ y, y ≠ .agg #[.int .i64 k, .int .i64 who, .string q, .int .i64 m, .int .i64 c, .bool d] → f' y = f y) → MapV w' 55 b (n + 1) (.int .i64 0) f' := by
  have h' := (h.alloc (.cells #[.int .i64 k, .int .i64 who, .string q, .int .i64 m, .int .i64 c, .bool d] 55 (0, 0)))
  have hlk := h'.look keyed55 Try.underlying61 (zero3 _) hk
  rw [hf] at hlk
  obtain ⟨v0, st, w1, hme, hm1, hg1, hst⟩ := h'.drew.entry law55 Try.underlying61 zero3 hn hk
  have hlk1 := hm1.look keyed55 Try.underlying61 (zero3 _) hk
  rw [hf] at hlk1
  obtain ⟨w3, hes, hg3, hm3⟩ := hst w1 (.int .i64 (x - 1)) rfl
  have hlkd : (Instr.lookup 61 (.map (some b)) (.agg #[.int .i64 k, .int .i64 who, .string q, .int .i64 m, .int .i64 c, .bool d]) false).run Try.prog (w.alloc (.cells #[.int .i64 k, .int .i64 who, .string q, .int .i64 m, .int .i64 c, .bool d] 55 (0, 0))).drew = .ok (.int .i64 x) (w.alloc (.cells #[.int .i64 k, .int .i64 who, .string q, .int .i64 m, .int .i64 c, .bool d] 55 (0, 0))).drew := by
    have := h'.drew.look keyed55 Try.underlying61 (zero3 _) hk
    rwa [hf] at this
  have hes' : (Instr.entryStore 61 (.map (some b)) (.int .i64 st) (.int .i64 (x - 1))).run Try.prog w1 = .ok () w3 := hes
  clear h h' hst hm1 hes
  go_enter Try.func38, Try.ntmps38
  go_wp2
  go_region
  all_goals go_wp2
  all_goals go_ret
  all_goals exact ⟨rfl, (World.grownBy_alloc w _ _).trans ((Grow.drew _ _).trans (hg1.trans hg3)), hm3⟩

end Go.Proofs.Ytgincippgaecfaa.Au

namespace Go.Proofs.Ytgincippgaecfaa.Au
open Go Go.RowKit

/-- The slice value holds the names; its cells are the call's own (from block base on). -/
def Nx (base : Nat) (W : World) (v : Value) (l : List ByteArray) : Prop :=
  ∃ g off cap, v = .slice (some ⟨g, off, none⟩) l.length cap ∧ base ≤ g ∧ g < W.heap.size ∧ l.length ≤ cap ∧ cap ≤ maxLen ∧ (∀ (j : Nat) (x : ByteArray), l[j]? = some x → W.cell? ⟨g, off + j, none⟩ = some (.string x)) ∧
    ∀ j, j < cap → (W.cell? ⟨g, off + j, none⟩).isSome = true ∧ W.frozen? ⟨g, off + j, none⟩ = false

theorem Nx.kept {base : Nat} {W W' : World} {v : Value} {l : List ByteArray} (h : Nx base W v l) (hk : ∀ g, base ≤ g → g < W.heap.size → W'.heap[g]? = W.heap[g]?) (hs : W.heap.size ≤ W'.heap.size) : Nx base W' v l := by
  obtain ⟨g, off, cap, rfl, h1, h2, h3, h4, h5, h6⟩ := h
  have hb := hk g h1 h2
  exact ⟨g, off, cap, rfl, h1, Nat.lt_of_lt_of_le h2 hs, h3, h4, fun j x hx => (World.cell?_of_block (a := ⟨g, off + j, none⟩) hb).trans (h5 j x hx), fun j hj => ⟨by rw [World.cell?_of_block (a := ⟨g, off + j, none⟩) hb]; exact (h6 j hj).1, (World.frozen?_of_block (a := ⟨g, off + j, none⟩) hb).trans (h6 j hj).2⟩⟩
theorem Nx.grown {base : Nat} {W W' : World} {v : Value} {l : List ByteArray} {row : Option Nat} (h : Nx base W v l) (hg : W.grownBy W' row) (hr : ∀ r, row = some r → r < base) : Nx base W' v l :=
  h.kept (fun g h1 h2 => hg.block g h2 fun e => by have := hr g e.symm; omega) hg.size
theorem Nx.start (W : World) (s : ByteArray) {base : Nat} (hb : base ≤ W.heap.size) : Nx base (W.alloc (.cells #[.string s] 9 (0, 0))) (.slice (some ⟨W.heap.size, 0, none⟩) 1 1) [s] := by
  refine ⟨W.heap.size, 0, 1, rfl, hb, by simp, Nat.le_refl _, by unfold maxLen; omega, fun j x hx => ?_, fun j hj => ?_⟩
  · match j with
    | 0 => simp at hx; subst hx; simp
    | j + 1 => simp at hx
  · obtain rfl : j = 0 := by omega
    constructor
    · simp
    · exact World.frozen?_alloc_new W _ _ _
theorem Nx.next {base : Nat} {W : World} {g off cap : Nat} {x : ByteArray} {l : List ByteArray} (h : Nx base W (.slice (some ⟨g, off, none⟩) (l.length + 1) cap) (x :: l)) : Nx base W (.slice (some ⟨g, off + 1, none⟩) l.length (cap - 1)) l := by
  obtain ⟨g', off', cap', e, h1, h2, h3, h4, h5, h6⟩ := h
  simp only [Value.slice.injEq, Option.some.injEq, Addr.mk.injEq] at e
  obtain ⟨⟨rfl, rfl, _⟩, _, rfl⟩ := e
  simp only [List.length_cons] at h3
  refine ⟨g, off + 1, cap - 1, rfl, h1, h2, by omega, by omega, fun j y hy => ?_, fun j hj => ?_⟩
  · have := h5 (j + 1) y hy
    rwa [show off + (j + 1) = off + 1 + j by omega] at this
  · have := h6 (j + 1) (by omega)
    rwa [show off + (j + 1) = off + 1 + j by omega] at this

theorem grown_setJ (W : World) (g o : Nat) (v : Value) : W.grownBy (W.setCell ⟨g, o, none⟩ v) (some g) :=
  ⟨rfl, rfl, rfl, (KeepsWalks.setCell W _ v).size, fun k _ hk => Below.heap_setCell _ _ _ k (fun e => hk (by rw [e]))⟩

/-- One name more. -/
theorem Nx.push {base : Nat} {W : World} {v : Value} {l : List ByteArray} (h : Nx base W v l) (hb : base ≤ W.heap.size) (ab ao : Nat) (x : ByteArray) (hx : W.cell? ⟨ab, ao, none⟩ = some (.string x)) (ty : TypeId) (i : TypeInfo) (hi : Try.prog.info? 9 = some i) (hz0 : i.zero = some (.string ⟨#[]⟩)) (hz1 : i.size = 1) (hz2 : i.bytes = 16)
    (hm : l.length + 1 ≤ 3000000000000) : ∃ v' W', (Builtin.append_ #[67, 67] ty #[v, .slice (some ⟨ab, ao, none⟩) 1 1]).run Try.prog W = .ok v' W' ∧ Nx base W' v' (l ++ [x]) ∧ ∃ g, base ≤ g ∧ W.grownBy W' (some g) := by
  obtain ⟨g, off, cap, rfl, h1, h2, h3, h4, h5, h6⟩ := h
  have hs : Src Try.prog i.size 67 (.slice (some ⟨ab, ao, none⟩) 1 1) 1 [.string x] W := Src.ofSlice W Try.underlying67 ⟨ab, ao, none⟩ 1 1 [.string x] (by simp [hz1]) (fun j u hu => by
    match j with
    | 0 => simp at hu; subst hu; rw [Addr.add_lit, Nat.add_zero]; exact hx
    | j + 1 => simp at hu) (by simp [Value.oneCell'])
  by_cases hroom : l.length + 1 ≤ cap
  · have hl6 := h6 l.length (by omega)
    have hr := run_append_room_src (P := Try.prog) W 67 67 ty 9 i Try.underlying67 hi g off l.length cap _ 1 [.string x] hs hroom
      (fun j hj => by
        obtain rfl : j = 0 := by simpa using hj
        rw [hz1, Nat.mul_one, Nat.add_zero]; exact hl6.1)
      (fun j hj => by
        obtain rfl : j = 0 := by simpa using hj
        rw [hz1, Nat.mul_one, Nat.add_zero]; exact hl6.2)
    rw [hz1, Nat.mul_one] at hr
    have hw : W.setCells g (off + l.length) [.string x] = W.setCell ⟨g, off + l.length, none⟩ (.string x) := rfl
    rw [hw] at hr
    refine ⟨_, _, hr, ⟨g, off, cap, by simp, h1, Nat.lt_of_lt_of_le h2 (grown_setJ W g _ _).size, by simpa using hroom, h4, fun j y hy => ?_, fun j hj => ?_⟩, g, h1, grown_setJ W g _ _⟩
    · by_cases hj : j = l.length
      · subst hj
        simp at hy; subst hy
        exact World.cell?_setCell_same' _ _ _ hl6.1
      · rw [World.cell?_setCell_other _ _ _ _ (fun e => hj (by have h9 : off + l.length = off + j := congrArg Addr.off e; omega))]
        have hjl : j < l.length := by
          have := (List.getElem?_eq_some_iff.1 hy).1
          simp at this; omega
        rw [List.getElem?_append_left hjl] at hy
        exact h5 j y hy
    · refine ⟨?_, by rw [World.frozen?_setCell]; exact (h6 j hj).2⟩
      by_cases hj2 : j = l.length
      · subst hj2
        rw [World.cell?_setCell_same' _ _ _ hl6.1]; rfl
      · rw [World.cell?_setCell_other _ _ _ _ (fun e => hj2 (by have h9 : off + l.length = off + j := congrArg Addr.off e; omega))]
        exact (h6 j hj).1
  · have hcap : cap = l.length := by omega
    subst hcap
    have hold := run_firstCells_some (P := Try.prog) (w := W.drew) i.size l.length ⟨g, off, none⟩ l.length l.length (l.map Value.string) (by simp [hz1]) (fun j u hu => by
      rw [List.getElem?_map] at hu
      cases hy : l[j]? with
      | none => rw [hy] at hu; cases hu
      | some y =>
        rw [hy] at hu
        simp at hu; subst hu
        rw [Addr.add_lit]
        exact h5 j y hy)
    have hr := run_append_grow_src (P := Try.prog) W 67 67 ty 9 i _ Try.underlying67 hi hz0 (some ⟨g, off, none⟩) l.length l.length (l.map Value.string) hold _ 1 [.string x] hs (by omega) (by omega)
      (growslice_fits (by omega) (by rw [hz2]; omega))
    have hge := grownCap_ge W (l.length + 1) l.length 9
    have hcm := grownCap_le_maxLen W (l.length + 1) l.length 9 (by unfold maxLen; omega)
    refine ⟨_, _, hr, ⟨W.heap.size, 0, _, by simp, hb, by simp, by simpa using hge, hcm, fun j y hy => ?_, fun j hj => ?_⟩, W.heap.size, hb, rfl, rfl, rfl, by simp, fun k hk _ => Below.heap_alloc W.drew _ k hk⟩
    · rw [Nat.zero_add]
      have e1 := World.cell?_alloc_new W.drew (((l.map Value.string) ++ [Value.string x]).toArray ++ Builtin.zeroCells (Value.string ⟨#[]⟩).cells (grownCap W (l.length + 1) l.length 9 - (l.length + 1))) 9 j
      refine e1.trans ?_
      have hjl := (List.getElem?_eq_some_iff.1 hy).1
      rw [Array.getElem?_append_left (by simpa using hjl), List.getElem?_toArray]
      rw [show (l.map Value.string) ++ [Value.string x] = (l ++ [x]).map Value.string by simp, List.getElem?_map, hy]
      rfl
    · rw [Nat.zero_add]
      have e1 := World.cell?_alloc_new W.drew (((l.map Value.string) ++ [Value.string x]).toArray ++ Builtin.zeroCells (Value.string ⟨#[]⟩).cells (grownCap W (l.length + 1) l.length 9 - (l.length + 1))) 9 j
      refine ⟨?_, World.frozen?_alloc_new W.drew _ _ _⟩
      refine (congrArg Option.isSome e1).trans ?_
      have hsz : (((l.map Value.string) ++ [Value.string x]).toArray ++ Builtin.zeroCells (Value.string ⟨#[]⟩).cells (grownCap W (l.length + 1) l.length 9 - (l.length + 1))).size = grownCap W (l.length + 1) l.length 9 := by
        rw [Array.size_append, size_zeroCells]
        simp [Value.cells]
        omega
      rw [Array.getElem?_eq_getElem (by rw [hsz]; exact hj)]
      rfl

theorem wpList_append_nx (W : World) {ops : Array Oper} {rest : List Oper} {o : Oper} {a : Act} {Q : Exit → Act → World → Prop} (hgd : o.guard = none) (s x : Operand)
    (ho : o.op = .call { callee := .builtin .append, args := #[s, x], argTypes := #[67, 67] }) {base : Nat} {v : Value} {l : List ByteArray} (hv : a.eval s = v) (h : Nx base W v l) (hb : base ≤ W.heap.size)
    (ab ao : Nat) (y : ByteArray) (hx : a.eval x = .slice (some ⟨ab, ao, none⟩) 1 1) (hy : W.cell? ⟨ab, ao, none⟩ = some (.string y)) (i : TypeInfo) (hi : Try.prog.info? 9 = some i) (hz0 : i.zero = some (.string ⟨#[]⟩)) (hz1 : i.size = 1) (hz2 : i.bytes = 16)
    (hm : l.length + 1 ≤ 3000000000000) (hK : ∀ v' W', Nx base W' v' (l ++ [y]) → (∃ g, base ≤ g ∧ W.grownBy W' (some g)) → wpList Try.prog ops Q rest (a.put o.dst v') W') : wpList Try.prog ops Q (o :: rest) a W := by
  refine wpList_plain hgd fun K hK' => ?_
  obtain ⟨v', w', hrun, r1, r2⟩ := h.push hb ab ao y hy o.type i hi hz0 hz1 hz2 hm
  unfold Oper.wp
  simp [execOp, ho, resolve, invoke, builtin, hv, hx, hrun, Result.andThen]
  exact hK' _ _ (hK v' w' r1 r2)

end Go.Proofs.Ytgincippgaecfaa.Au

namespace Go.Proofs.Ytgincippgaecfaa.Au
open Go Go.RowKit

theorem least_exists {P : Nat → Prop} (h : ∃ m, P m) : ∃ m, P m ∧ ∀ k, P k → m ≤ k := by
  obtain ⟨m, hm⟩ := h
  induction m using Nat.strongRecOn with
  | _ m ih =>
    by_cases hk : ∃ k, k < m ∧ P k
    · obtain ⟨k, h1, h2⟩ := hk
      exact ih k h1 h2
    · refine ⟨m, hm, fun k hk' => ?_⟩
      false_or_by_contra
      exact hk ⟨k, by omega, hk'⟩
/-- The least number of which P holds (0: there is none). -/
noncomputable def least (P : Nat → Prop) : Nat := open Classical in if h : ∃ m, P m then (least_exists h).choose else 0
theorem least_spec {P : Nat → Prop} (h : ∃ m, P m) : P (least P) := by
  unfold least
  rw [dif_pos h]
  exact (least_exists h).choose_spec.1
theorem least_le {P : Nat → Prop} {m : Nat} (h : P m) : least P ≤ m := by
  unfold least
  rw [dif_pos ⟨m, h⟩]
  exact (least_exists ⟨m, h⟩).choose_spec.2 m h

open Classical in
noncomputable def upd (f : Value → Value) (x v : Value) : Value → Value := fun y => if y = x then v else f y
theorem upd_same (f : Value → Value) (x v : Value) : upd f x v x = v := by unfold upd; simp
theorem upd_other (f : Value → Value) (x v : Value) {y : Value} (h : y ≠ x) : upd f x v y = f y := by unfold upd; simp [h]

/-- 'm[k] = v' at the operation. -/
theorem wpList_put (W : World) {ops : Array Oper} {rest : List Oper} {o : Oper} {a : Act} {Q : Exit → Act → World → Prop} (hg : o.guard = none) (m x v : Operand) (t : TypeId) (hop : o.op = Op.mapUpdate t m x v)
    (k e : TypeId) (K : Maps.Keyed Try.prog k) (ht : Try.prog.underlying t = some (.map k e)) (b n : Nat) (z : Value) (f : Value → Value) (hm : a.eval m = .map (some b)) (h : MapV W k b n z f) (hn : n < maxLen)
    (key val : Value) (hx : a.eval x = key) (hv : a.eval v = val) (hk : KeyOk k key) (hK : ∀ W', MapV W' k b (n + 1) z (upd f key val) → W.grownBy W' (some b) → wpList Try.prog ops Q rest (a.put o.dst undef) W') : wpList Try.prog ops Q (o :: rest) a W := by
  refine wpList_plain hg fun K' hK' => ?_
  obtain ⟨W', hrun, r1, r2⟩ := h.put K ht hn hk val
  unfold Oper.wp
  simp [execOp, hop, hm, hx, hv, hrun, Result.andThen]
  exact hK' _ _ (hK W' (r1 _ (upd_same _ _ _) fun y hy => upd_other _ _ _ hy) r2)

theorem ownsRow_block {A B : World} {base e size n : Nat} {v : Value} {xs : List Value} (h : A.ownsRow base e size v n xs) (hb : ∀ g, v.ownBlock = some g → B.heap[g]? = A.heap[g]?) : B.ownsRow base e size v n xs := by
  refine ⟨h.1, h.2.imp id ?_⟩
  rintro ⟨g, cap, cur, rfl, h1, h2, h3⟩
  exact ⟨g, cap, cur, rfl, h1, (hb g rfl).trans h2, h3⟩
theorem ownsRow_belowJ {A B : World} {m base e size n : Nat} {v : Value} {xs : List Value} (h : A.ownsRow base e size v n xs) (hw : Below m A B) (hm : ∀ g, v.ownBlock = some g → g < m) : B.ownsRow base e size v n xs :=
  ownsRow_block h fun g hg => hw.block g (hm g hg)

/-- The map of the Deads: at a name, a row of what its configurations name. -/
structure DeadAt (base : Nat) (W : World) (hd N : Nat) (fd : Value → Value) (qs : List Qc) : Prop where
  map : MapV W 9 hd N (.slice none 0 0) fd
  rows : ∀ s : ByteArray, s.size ≤ maxLen → ∃ l : List ByteArray, l.map (·.toList) = deads qs s.toList ∧ (∀ x ∈ l, x.size ≤ maxLen) ∧ Strs base W (fd (.string s)) l

theorem DeadAt.below {base hd N : Nat} {A B : World} {fd : Value → Value} {qs : List Qc} (h : DeadAt base A hd N fd qs) (hw : Below A.heap.size A B) : DeadAt base B hd N fd qs :=
  ⟨h.map.below hw h.map.lt, fun s hs => by
    obtain ⟨l, h1, h2, h3⟩ := h.rows s hs
    exact ⟨l, h1, h2, ownsRow_belowJ h3 hw fun g hg => (World.ownsRow.lt h3 g hg).2⟩⟩

/-! ### How many Deads there are in all. -/
theorem deads_cons (c : Qc) (qs : List Qc) (x : Nm) : (deads (c :: qs) x).length ≤ (if c.name.toList = x then 1 else 0) + (deads qs x).length := by
  unfold deads
  rw [List.filter_cons]
  by_cases h : c.name.toList = x
  · split
    · simp; omega
    · simp
  · have : (c.name.toList == x) = false := by simpa using h
    simp [h, this]
def sumD (qs : List Qc) (l : List Nm) : Nat := (l.map fun x => (deads qs x).length).sum
theorem sumD_nil (l : List Nm) : sumD [] l = 0 := by
  unfold sumD deads
  induction l with
  | nil => rfl
  | cons a l ih => simpa using ih
theorem sumD_cons (c : Qc) (qs : List Qc) (l : List Nm) : sumD (c :: qs) l ≤ l.count c.name.toList + sumD qs l := by
  unfold sumD
  induction l with
  | nil => simp
  | cons a l ih =>
    simp only [List.map_cons, List.sum_cons, List.count_cons]
    have h1 := deads_cons c qs a
    have h2 : (if c.name.toList = a then 1 else 0) = if (a == c.name.toList) = true then 1 else 0 := by
      by_cases h : c.name.toList = a
      · simp [h]
      · have h' : ¬ a = c.name.toList := fun e => h e.symm
        simp [h, h']
    omega
theorem sumD_le (qs : List Qc) {l : List Nm} (h : l.Nodup) : sumD qs l ≤ qs.length := by
  induction qs with
  | nil => rw [sumD_nil]; simp
  | cons c qs ih =>
    have h1 := sumD_cons c qs l
    have h2 := List.nodup_iff_count.1 h c.name.toList
    simp only [List.length_cons]
    omega
/-- How many Deads have been looked at before the k-th round. -/
def seen (qs : List Qc) (a : Nm) (met : List Nm) (k : Nat) : Nat := sumD qs ((a :: met).take k)
theorem seen_le {qs : List Qc} {a g : Nm} {k k' : Nat} {met : List Nm} (h : BS qs a g k met) : seen qs a met k' ≤ 2 * qs.length := by
  unfold seen
  cases k' with
  | zero => simp [sumD]
  | succ k' =>
    rw [List.take_succ_cons]
    have h1 := sumD_le qs (l := met.take k') (h.1.sublist (List.take_sublist _ _))
    have h2 := sumD_le qs (l := [a]) (by simp)
    unfold sumD at *
    simp only [List.map_cons, List.sum_cons, List.map_nil, List.sum_nil, Nat.add_zero] at *
    omega
theorem seen_step {qs : List Qc} {a x : Nm} {k : Nat} {met : List Nm} (hx : (a :: met)[k]? = some x) : seen qs a met (k + 1) = seen qs a met k + (deads qs x).length := by
  unfold seen sumD
  rw [List.take_add_one, hx]
  simp
theorem seen_new {qs : List Qc} {a : Nm} {k : Nat} {met : List Nm} {d : Nm} (hk : k ≤ met.length + 1) : seen qs a (met ++ [d]) k = seen qs a met k := by
  unfold seen
  rw [← List.cons_append, List.take_append_of_le_length (by simpa using hk)]

/-- What the tally of the names met tells: just those met are counted. -/
def MetOf (f : Value → Value) (met : List Nm) (T : Nat) : Prop :=
  ∀ s : ByteArray, ∃ c : Nat, f (.string s) = .int .i64 c ∧ c ≤ T ∧ (c = 0 ↔ s.toList ∉ met)
theorem MetOf.start (T : Nat) : MetOf (fun _ => .int .i64 0) [] T := fun _ => ⟨0, rfl, Nat.zero_le _, by simp⟩
theorem string_inj {s t : ByteArray} (h : s.toList = t.toList) : s = t := by
  rw [Lib.toList_data, Lib.toList_data] at h
  cases s; cases t
  simpa using h
theorem MetOf.old {f : Value → Value} {met : List Nm} {T : Nat} (h : MetOf f met T) {s : ByteArray} {c : Nat} (hc : f (.string s) = .int .i64 c) (h0 : c ≠ 0) : MetOf (upd f (.string s) (.int .i64 (c + 1))) met (T + 1) := fun t => by
  by_cases ht : t = s
  · subst ht
    obtain ⟨c', h1, h2, h3⟩ := h t
    have : c' = c := by
      rw [hc] at h1
      simp at h1
      omega
    subst this
    exact ⟨c' + 1, by rw [upd_same]; simp, by omega, by
      constructor
      · intro e; omega
      · intro e; exact absurd (h3.2 e) h0⟩
  · obtain ⟨c', h1, h2, h3⟩ := h t
    exact ⟨c', by rw [upd_other _ _ _ (fun e => ht (by cases e; rfl))]; exact h1, by omega, h3⟩
theorem MetOf.new {f : Value → Value} {met : List Nm} {T : Nat} (h : MetOf f met T) (s : ByteArray) : MetOf (upd f (.string s) (.int .i64 1)) (met ++ [s.toList]) (T + 1) := fun t => by
  by_cases ht : t = s
  · subst ht
    exact ⟨1, by rw [upd_same]; rfl, by omega, by simp⟩
  · obtain ⟨c', h1, h2, h3⟩ := h t
    refine ⟨c', by rw [upd_other _ _ _ (fun e => ht (by cases e; rfl))]; exact h1, by omega, ?_⟩
    rw [h3]
    simp only [List.mem_append, List.mem_singleton, not_or]
    exact ⟨fun e => ⟨e, fun e' => ht (string_inj e')⟩, fun e => e.1⟩

end Go.Proofs.Ytgincippgaecfaa.Au

namespace Go.Proofs.Ytgincippgaecfaa.Au
open Go Go.RowKit

/-- The tally of the names met; the row of those still to be gone on from; what lay below. -/
structure LW (w : World) (met : List Nm) (T : Nat) (l : List ByteArray) (v : Value) (W : World) : Prop where
  tally : ∃ fm, MapV W 9 w.heap.size T (.int .i64 0) fm ∧ MetOf fm met T
  row : Nx (w.heap.size + 1) W v l
  sizes : ∀ x ∈ l, x.size ≤ maxLen
  below : Below w.heap.size w W
  size : w.heap.size + 1 ≤ W.heap.size

/-- Between two rounds of the outer loop. -/
def LO (w : World) (qs : List Qc) (a g : Nm) (k : Nat) (v : Value) (W : World) : Prop :=
  ∃ met l, BS qs a g k met ∧ (a :: met).drop k = l.map (·.toList) ∧ k ≤ met.length + 1 ∧ LW w met (seen qs a met k) l v W
/-- Between two rounds of the inner loop. -/
def LQ (w : World) (qs : List Qc) (a g : Nm) (k i : Nat) (x : ByteArray) (v : Value) (W : World) : Prop :=
  ∃ met rest, BT qs a g k i x.toList met ∧ (a :: met).drop k = x.toList :: rest.map (·.toList) ∧ LW w met (seen qs a met k + i) (x :: rest) v W

section
variable {w W W' : World} {qs : List Qc} {a g : Nm} {k i : Nat} {x y : ByteArray} {v v' : Value} {met : List Nm} {rest : List ByteArray} {T : Nat} {l : List ByteArray}

theorem LW.grown (h : LW w met T l v W) {row : Option Nat} (hg : W.grownBy W' row) (hr : row = none) : LW w met T l v W' := by
  subst hr
  obtain ⟨⟨fm, h1, h2⟩, h3, h4, h5, h6⟩ := h
  exact ⟨⟨fm, h1.kept hg (by simp), h2⟩, h3.grown hg (by simp), h4, h5.grown hg h5.size (by simp), Nat.le_trans h6 hg.size⟩

theorem LO.start (w : World) (qs : List Qc) (x : ByteArray) (g : Nm) (hx : x.size ≤ maxLen) :
    LO w qs x.toList g 0 (.slice (some ⟨w.heap.size + 1, 0, none⟩) 1 1) ((w.alloc (.map #[] 0)).alloc (.cells #[.string x] 9 (0, 0))) := by
  refine ⟨[], [x], BS.start qs _ g, rfl, Nat.zero_le _, ⟨_, ((MapV.made w 9 (.int .i64 0)).alloc _).mono (Nat.zero_le _), MetOf.start _⟩, ?_, ?_, ?_, ?_⟩
  · have := Nx.start (w.alloc (.map #[] 0)) x (base := w.heap.size + 1) (by simp)
    simpa using this
  · intro y hy; simp at hy; subst hy; exact hx
  · exact ((Below.refl _ w).alloc (Nat.le_refl _) _).alloc (by simp) _
  · simp

theorem LO.stop (h : LO w qs a g k v W) (hl : ∃ p c, v = .slice p 0 c) : ¬ Reach qs a g := by
  obtain ⟨met, l, h1, h2, h3, h4⟩ := h
  obtain ⟨_, _, _, e, _⟩ := h4.row
  obtain ⟨p, c, e2⟩ := hl
  rw [e] at e2
  obtain rfl : l = [] := by simp at e2; exact e2.2.1
  have h5 := congrArg List.length h2
  simp at h5
  obtain rfl : k = met.length + 1 := by omega
  exact h1.end

theorem LO.cases (h : LO w qs a g k v W) : (∃ g' off cap, v = .slice (some ⟨g', off, none⟩) 0 cap) ∨ ∃ x rest g' off cap, v = .slice (some ⟨g', off, none⟩) (rest.length + 1) cap ∧ W.cell? ⟨g', off, none⟩ = some (.string x) ∧ x.size ≤ maxLen ∧ w.heap.size < g' ∧ (rest : List ByteArray).length + 1 ≤ cap ∧ rest.length ≤ qs.length ∧ k ≤ qs.length ∧ LQ w qs a g k 0 x v W := by
  obtain ⟨met, l, h1, h2, h3, h4⟩ := h
  obtain ⟨g', off, cap, e, hb, hlt, hlc, hcm, hce, hcl⟩ := h4.row
  cases l with
  | nil => exact .inl ⟨g', off, cap, e⟩
  | cons x rest =>
    have hk : (a :: met)[k]? = some x.toList := by
      have := congrArg (fun l => l[0]?) h2
      simpa using this
    have hlm := h1.length
    have hk2 : k < (a :: met).length := (List.getElem?_eq_some_iff.1 hk).1
    have hl2 := congrArg List.length h2
    simp at hk2 hl2
    refine .inr ⟨x, rest, g', off, cap, e, ?_, h4.sizes x (by simp), by omega, by simpa using hlc, by omega, by omega, met, rest, h1.open hk, h2, h4⟩
    have := hce 0 x rfl
    simpa using this

theorem LQ.hit (h : LQ w qs a g k i x v W) (hy : (deads qs x.toList)[i]? = some g) : Reach qs a g := by
  obtain ⟨met, rest, h1, _⟩ := h
  exact h1.hit hy

/-- What a round of the inner loop opens. -/
theorem LQ.opened (h : LQ w qs a g k i x v W) (hy : (deads qs x.toList)[i]? = some y.toList) (hq : qs.length * 56 ≤ 140737488351232) :
    ∃ met rest fm c, BT qs a g k i x.toList met ∧ (a :: met).drop k = x.toList :: rest.map (·.toList) ∧ LW w met (seen qs a met k + i) (x :: rest) v W ∧ MapV W 9 w.heap.size (seen qs a met k + i) (.int .i64 0) fm ∧ MetOf fm met (seen qs a met k + i) ∧
      fm (.string y) = .int .i64 (c : Nat) ∧ c ≤ 9000000000000 ∧ (c = 0 ↔ y.toList ∉ met) ∧ (seen qs a met k + i) < maxLen ∧ rest.length ≤ 2600000000000 := by
  obtain ⟨met, rest, h1, h2, h3⟩ := h
  obtain ⟨fm, hM, hF⟩ := h3.tally
  obtain ⟨c, hc, hcT, hc0⟩ := hF y
  have h4 := seen_le h1.1 (k' := k)
  have h5 : i < (deads qs x.toList).length := (List.getElem?_eq_some_iff.1 hy).1
  have h6 : (deads qs x.toList).length ≤ qs.length := by unfold deads; rw [List.length_map]; exact List.length_filter_le _ _
  have h7 := h1.1.length
  have hl2 := congrArg List.length h2
  simp at hl2
  exact ⟨met, rest, fm, c, h1, h2, h3, hM, hF, hc, by omega, hc0, by unfold maxLen; omega, by omega⟩

theorem LQ.old {fm : Value → Value} {c : Nat} (h1 : BT qs a g k i x.toList met) (h2 : (a :: met).drop k = x.toList :: rest.map (·.toList)) (h3 : LW w met (seen qs a met k + i) (x :: rest) v W) (hF : MetOf fm met (seen qs a met k + i))
    (hc : fm (.string y) = .int .i64 c) (hc0 : c = 0 ↔ y.toList ∉ met) (h0 : c ≠ 0) (hy : (deads qs x.toList)[i]? = some y.toList) (hM : MapV W' 9 w.heap.size (seen qs a met k + i + 1) (.int .i64 0) (upd fm (.string y) (.int .i64 (c + 1)))) (hg : W.grownBy W' (some w.heap.size)) :
    LQ w qs a g k (i + 1) x v W' := by
  have hm : y.toList ∈ met := by
    false_or_by_contra
    rename_i hn
    exact h0 (hc0.2 hn)
  exact ⟨met, rest, h1.old hy hm, h2, ⟨_, hM, hF.old hc h0⟩, h3.row.grown hg (fun r e => by have := Option.some.inj e; omega), h3.sizes, h3.below.grown hg h3.below.size (fun r e => by have := Option.some.inj e; omega), Nat.le_trans h3.size hg.size⟩

theorem LQ.new {fm : Value → Value} {tmp : Obj} {g' : Nat} {W'' : World} (h1 : BT qs a g k i x.toList met) (h2 : (a :: met).drop k = x.toList :: rest.map (·.toList)) (h3 : LW w met (seen qs a met k + i) (x :: rest) v W) (hF : MetOf fm met (seen qs a met k + i))
    (hc0 : y.toList ∉ met) (hyg : y.toList ≠ g) (hs : y.size ≤ maxLen) (hy : (deads qs x.toList)[i]? = some y.toList) (hM : MapV W' 9 w.heap.size (seen qs a met k + i + 1) (.int .i64 0) (upd fm (.string y) (.int .i64 1))) (hg : W.grownBy W' (some w.heap.size))
    (hN : Nx (w.heap.size + 1) W'' v' (x :: rest ++ [y])) (hg1 : w.heap.size + 1 ≤ g') (hg2 : (W'.alloc tmp).grownBy W'' (some g')) :
    LQ w qs a g k (i + 1) x v' W'' := by
  have hk : k < (a :: met).length := by
    have := congrArg List.length h2
    simp at this
    simp; omega
  refine ⟨met ++ [y.toList], rest ++ [y], h1.new hy hc0 hyg, ?_, ⟨upd fm (.string y) (.int .i64 1), ?_, ?_⟩, by simpa using hN, ?_, ?_, ?_⟩
  · rw [← List.cons_append, List.drop_append_of_le_length (Nat.le_of_lt hk), h2]; simp
  · rw [seen_new (by simpa using Nat.le_of_lt hk)]
    exact (hM.alloc tmp).kept hg2 (fun e => by have := Option.some.inj e; omega)
  · rw [seen_new (by simpa using Nat.le_of_lt hk)]
    exact hF.new y
  · intro z hz
    rw [← List.cons_append] at hz
    rcases List.mem_append.1 hz with hz | hz
    · exact h3.sizes z hz
    · simp at hz; subst hz; exact hs
  · have hb1 : Below w.heap.size w W' := h3.below.grown hg h3.below.size (fun r e => by have := Option.some.inj e; omega)
    exact (hb1.alloc hb1.size tmp).grown hg2 (by have := hb1.size; simp; omega) (fun r e => by have := Option.some.inj e; omega)
  · have := h3.size
    have := hg.size
    have h9 := hg2.size
    simp at h9
    omega

/-- The end of a round of the outer loop. -/
theorem LQ.close (h : LQ w qs a g k (deads qs x.toList).length x v W) : ∃ g' off n cap, v = .slice (some ⟨g', off, none⟩) (n + 1) cap ∧ n + 1 ≤ cap ∧
    (cap = 1 → LO w qs a g (k + 1) (.slice (some ⟨g', off, none⟩) 0 0) W) ∧ LO w qs a g (k + 1) (.slice (some ⟨g', off + 1, none⟩) n (cap - 1)) W := by
  obtain ⟨met, rest, h1, h2, h3⟩ := h
  obtain ⟨g', off, cap, e, hb, hlt, hlc, hcm, hce, hcl⟩ := h3.row
  have hseen := seen_step (qs := qs) h1.2.1
  have hd : (a :: met).drop (k + 1) = rest.map (·.toList) := by
    have h5 := congrArg List.tail h2
    rwa [List.tail_drop, List.tail_cons] at h5
  have hk : k < (a :: met).length := by
    have := congrArg List.length h2
    simp at this
    simp; omega
  simp only [List.length_cons] at hlc
  refine ⟨g', off, rest.length, cap, by rw [e]; simp, hlc, fun hc1 => ?_, ?_⟩
  · obtain rfl : rest = [] := List.length_eq_zero_iff.1 (by omega)
    exact ⟨met, [], h1.close, hd, by simp at hk; omega, ⟨by rw [hseen]; exact h3.tally, ⟨g', off, 0, by simp, hb, hlt, by simp, by simp, by simp, fun j hj => absurd hj (Nat.not_lt_zero _)⟩, by simp, h3.below, h3.size⟩⟩
  · refine ⟨met, rest, h1.close, hd, by simp at hk; omega, ⟨by rw [hseen]; exact h3.tally, ?_, fun z hz => h3.sizes z (by simp [hz]), h3.below, h3.size⟩⟩
    have := h3.row
    rw [e] at this
    exact Nx.next this

theorem LQ.closeAt {g' off n cap : Nat} (h : LQ w qs a g k i x (.slice (some ⟨g', off, none⟩) (n + 1) cap) W) (hi : i = (deads qs x.toList).length) : (cap = 1 → LO w qs a g (k + 1) (.slice (some ⟨g', off, none⟩) 0 0) W) ∧ LO w qs a g (k + 1) (.slice (some ⟨g', off + 1, none⟩) n (cap - 1)) W := by
  subst hi
  obtain ⟨g2, off2, n2, cap2, e, _, hA, hB⟩ := h.close
  simp only [Value.slice.injEq, Option.some.injEq, Addr.mk.injEq, Nat.add_right_cancel_iff] at e
  obtain ⟨⟨rfl, rfl, _⟩, rfl, rfl⟩ := e
  exact ⟨hA, hB⟩
theorem LO.drewN (h : LO w qs a g k v W) (n : Nat) : LO w qs a g k v (W.drewN n) := by
  obtain ⟨met, l, h1, h2, h3, h4⟩ := h
  exact ⟨met, l, h1, h2, h3, h4.grown (row := none) ⟨rfl, rfl, rfl, Nat.le_refl _, fun _ _ _ => rfl⟩ rfl⟩
theorem LQ.drewN (h : LQ w qs a g k i x v W) (n : Nat) : LQ w qs a g k i x v (W.drewN n) := by
  obtain ⟨met, l, h1, h2, h4⟩ := h
  exact ⟨met, l, h1, h2, h4.grown (row := none) ⟨rfl, rfl, rfl, Nat.le_refl _, fun _ _ _ => rfl⟩ rfl⟩

/-- What is left of the outer loop. -/
noncomputable def LM (w : World) (qs : List Qc) (a g : Nm) (v : Value) (W : World) : Nat := least fun m => ∃ k, m = qs.length + 1 - k ∧ LO w qs a g k v W
theorem LM.open (h : ∃ k, LO w qs a g k v W) : ∃ k, LO w qs a g k v W ∧ LM w qs a g v W = qs.length + 1 - k := by
  obtain ⟨k, hk⟩ := h
  obtain ⟨k', e, h'⟩ := least_spec (P := fun m => ∃ k, m = qs.length + 1 - k ∧ LO w qs a g k v W) ⟨_, k, rfl, hk⟩
  exact ⟨k', h', e⟩
theorem LM.le (h : LO w qs a g k v W) : LM w qs a g v W ≤ qs.length + 1 - k := least_le ⟨k, rfl, h⟩
theorem LO.round (h : LO w qs a g (k + 1) v' W') (n : Nat) (hm : LM w qs a g v W = qs.length + 1 - k) (hk : k ≤ qs.length) : (∃ k, LO w qs a g k v' (W'.drewN n)) ∧ LM w qs a g v' (W'.drewN n) < LM w qs a g v W := by
  have h1 := h.drewN n
  have h2 := LM.le h1
  exact ⟨⟨_, h1⟩, by omega⟩
/-- The form of the row's value in the inner loop. -/
theorem LQ.form (h : LQ w qs a g k i x v W) : ∃ g' off n cap, v = .slice (some ⟨g', off, none⟩) (n + 1) cap ∧ n + 1 ≤ cap := by
  obtain ⟨met, rest, h1, h2, h3⟩ := h
  obtain ⟨g', off, cap, e, hb, hlt, hlc, hcm, hce, hcl⟩ := h3.row
  exact ⟨g', off, rest.length, cap, e, hlc⟩
end

end Go.Proofs.Ytgincippgaecfaa.Au

namespace Go.Proofs.Ytgincippgaecfaa.Au
open Go Go.RowKit

theorem cutA_yes {s h : ByteArray} (hb : beginsB s.toList h.toList = true) : (cutA s h).toList = s.toList.drop h.size := by
  unfold cutA
  rw [if_pos hb, drop_toList]
theorem cutA_size (s h : ByteArray) : (cutA s h).size ≤ s.size := by
  unfold cutA
  split
  · rw [← size_toList, drop_toList, List.length_drop, size_toList]; omega
  · exact Nat.le_refl _

theorem eq_of_beqB {x y : ByteArray} (h : (x.toList == y.toList) = true) : x.toList = y.toList := eq_of_beq h

def qk : ByteArray := ⟨#[113, 117, 101, 117, 101, 47]⟩
def tk : ByteArray := ⟨#[116, 111, 112, 105, 99, 47]⟩

set_option maxRecDepth 100000 in
set_option maxHeartbeats 4000000 in
theorem pleads_same (jv : Value) (a b : ByteArray) (w : World) (h : (a.toList == b.toList) = true) :
    Calls Try.prog 55 #[jv, .string a, .string b] w fun r w' => r = .returned (.bool true) ∧ w' = w := by
  go_enter Try.func55, Try.ntmps55
  go_wp2
  go_ret
  exact ⟨rfl, rfl⟩

set_option maxRecDepth 100000 in
set_option maxHeartbeats 4000000 in
theorem pleads_topic (jv : Value) (a b : ByteArray) (w : World) (h : (a.toList == b.toList) = false) (ht : beginsB a.toList topicB = true) :
    Calls Try.prog 55 #[jv, .string a, .string b] w fun r w' => r = .returned (.bool true) ∧ w' = w := by
  have hp := prefix53_any a topicA w
  rw [topicA_list, ht] at hp
  clear ht
  unfold topicA at hp
  go_enter Try.func55, Try.ntmps55
  go_wp2_with (go_at_call 53; refine hp.mono ?_; clear hp; rintro r w2 ⟨rfl, hw2⟩; cases hw2)
  go_ret
  exact ⟨rfl, rfl⟩

set_option maxRecDepth 100000 in
set_option maxHeartbeats 4000000 in
theorem pleads_no (jv : Value) (a b : ByteArray) (w : World) (x y : Bool) (h : (a.toList == b.toList) = false) (ht : beginsB a.toList topicB = false) (h1 : beginsB a.toList queueB = x) (h2 : beginsB b.toList queueB = y) (hn : (x && y) = false) :
    Calls Try.prog 55 #[jv, .string a, .string b] w fun r w' => r = .returned (.bool false) ∧ w' = w := by
  have hp := prefix53_any a topicA w
  have hc1 := cut82_any a queueA w
  have hc2 := cut82_any b queueA w
  rw [topicA_list, ht] at hp
  rw [queueA_list, h1] at hc1
  rw [queueA_list, h2] at hc2
  obtain ⟨na, hna⟩ : ∃ na, cutA a queueA = na := ⟨_, rfl⟩
  obtain ⟨nb, hnb⟩ : ∃ nb, cutA b queueA = nb := ⟨_, rfl⟩
  rw [hna] at hc1
  rw [hnb] at hc2
  clear ht h1 h2 hna hnb
  unfold topicA at hp
  unfold queueA at hc1 hc2
  cases x with
  | true =>
    obtain rfl : y = false := by simpa using hn
    clear hn
    go_enter Try.func55, Try.ntmps55
    go_wp2_with (first
      | (go_at_call 53; refine hp.mono ?_; clear hp; rintro r w2 ⟨rfl, hw2⟩; cases hw2)
      | (go_at_call 82; refine hc1.mono ?_; clear hc1; rintro r w2 ⟨rfl, hw2⟩; cases hw2)
      | (go_at_call 82; refine hc2.mono ?_; clear hc2; rintro r w2 ⟨rfl, hw2⟩; cases hw2)
      | go_in)
    go_ret
    exact ⟨rfl, rfl⟩
  | false =>
    clear hn
    go_enter Try.func55, Try.ntmps55
    go_wp2_with (first
      | (go_at_call 53; refine hp.mono ?_; clear hp; rintro r w2 ⟨rfl, hw2⟩; cases hw2)
      | (go_at_call 82; refine hc1.mono ?_; clear hc1; rintro r w2 ⟨rfl, hw2⟩; cases hw2)
      | (go_at_call 82; refine hc2.mono ?_; clear hc2; rintro r w2 ⟨rfl, hw2⟩; cases hw2)
      | go_in)
    go_ret
    exact ⟨rfl, rfl⟩

set_option maxRecDepth 100000 in
set_option maxHeartbeats 8000000 in
theorem pleads_way (base hd N jb : Nat) (fd : Value → Value) (qs : List Qc) (a b na nb : ByteArray) (w : World) (hq : qs.length * 56 ≤ 140737488351232) (hj : w.cell? ⟨jb, 0, none⟩ = some (.map (some hd))) (hjb : jb < w.heap.size) (hD : DeadAt base w hd N fd qs)
    (h : (a.toList == b.toList) = false) (ht : beginsB a.toList topicB = false) (h1 : beginsB a.toList queueB = true) (h2 : beginsB b.toList queueB = true) (hna : cutA a queueA = na) (hnb : cutA b queueA = nb) (hsz : na.size ≤ maxLen) :
    Calls Try.prog 55 #[.pointer (some ⟨jb, 0, none⟩), .string a, .string b] w fun r w' => (∃ x, r = .returned (.bool x) ∧ (x = true ↔ Reach qs na.toList nb.toList)) ∧ Below w.heap.size w w' := by
  have hp := prefix53_any a topicA w
  have hc1 := cut82_any a queueA w
  have hc2 := cut82_any b queueA w
  rw [topicA_list, ht] at hp
  rw [queueA_list, h1, hna] at hc1
  rw [queueA_list, h2, hnb] at hc2
  clear ht h1 h2 hna hnb
  unfold topicA at hp
  unfold queueA at hc1 hc2
  have HD := Lib.hid hD
  have HQ := Lib.hid hq
  have HJ := Lib.hid hj
  clear hD hq hj
  have hmm := @run_makeMap Try.prog
  go_enter Try.func55, Try.ntmps55
  go_wp2_with (first
    | (go_at_call 53; refine hp.mono ?_; clear hp; rintro r w2 ⟨rfl, hw2⟩; cases hw2)
    | (go_at_call 82; refine hc1.mono ?_; clear hc1; rintro r w2 ⟨rfl, hw2⟩; cases hw2)
    | (go_at_call 82; refine hc2.mono ?_; clear hc2; rintro r w2 ⟨rfl, hw2⟩; cases hw2)
    | go_in)
  clear hmm
  have h0 := LO.start w qs na nb.toList hsz
  have hs0 : ((w.alloc (.map #[] 0)).alloc (.cells #[.string na] 9 (0, 0))).heap.size = w.heap.size + 2 := by simp
  go_loopw [12] (fun v wr => ∃ k, LO w qs na.toList nb.toList k v wr) (fun v wr => LM w qs na.toList nb.toList v wr)
  case atStart => exact ⟨0, h0⟩
  case round =>
    clear h0 hs0
    obtain ⟨k, hk, hm⟩ := LM.open hrel
    rcases hk.cases with ⟨g', off, cap, rfl⟩ | ⟨x, rest, g', off, cap, rfl, cx, hxs, hgs, hrc, hrq, hkq, hI⟩
    · have HS := Lib.hid (hk.stop ⟨_, _, rfl⟩)
      have HB : Hid (Below w.heap.size w wr) := Lib.hid (by obtain ⟨_, _, _, _, _, h⟩ := hk; exact h.below)
      clear hk hm hrel
      go_wp2
      go_ret
      exact ⟨⟨false, rfl, by simpa using HS.out⟩, HB.out⟩
    · have hbw : Below w.heap.size w wr := by obtain ⟨_, _, _, _, _, h⟩ := hk; exact h.below
      obtain ⟨ds, hds, hdz, hrow⟩ := HD.out.rows x hxs
      have cj : wr.cell? ⟨jb, 0, none⟩ = some (.map (some hd)) := (hbw.cell (p := ⟨jb, 0, none⟩) hjb).trans HJ.out
      have hlk : ∀ n, (Instr.lookup 59 (.map (some hd)) (.string x) false).run Try.prog (wr.drewN n) = .ok (fd (.string x)) (wr.drewN n) := fun n =>
        ((HD.out.map.below hbw HD.out.map.lt).at_block (W' := wr.drewN n) rfl).look keyed9 Try.underlying59 (zero67 _) (key9 hxs)
      have hdl : ds.length = (deads qs x.toList).length := by rw [← hds, List.length_map]
      have HM := Lib.hid hm
      have HI := Lib.hid hI
      have hdq : (deads qs x.toList).length ≤ qs.length := by unfold deads; rw [List.length_map]; exact List.length_filter_le _ _
      have hds0 : (ds.length : Int) ≤ 9000000000000 := by have := HQ.out; omega
      have hc1 : (1 : Int) ≤ (cap : Int) := by omega
      have hc2 : (0 : Int) < ((rest.length + 1 : Nat) : Int) := by omega
      clear hk hrel hm hI hdq
      rcases row_cases hrow with ⟨hfd, h0⟩ | ⟨gr, capr, hfd, _, hgr, _, _, hcr⟩
      · rw [hfd] at hlk
        obtain rfl : ds = [] := List.length_eq_zero_iff.1 h0
        have hd0 : (deads qs x.toList).length = 0 := by simpa using hdl.symm
        obtain ⟨hA, hB⟩ := LQ.closeAt HI.out hd0.symm
        have HA := Lib.hid hA
        have HB := Lib.hid hB
        clear hfd hrow hds hdz h0 hdl hds0 hd0 hA hB
        by_cases hcap : cap = 1
        · subst hcap
          obtain rfl : rest = [] := List.length_eq_zero_iff.1 (by omega)
          go_wp2
          go_quiet (fail)
          go_wp2
          refine wp_loop_rounds 1 ?_
          rw [rounds_succ]
          go_wp2
          exact LO.round (HA.out trivial) nq HM.out hkq
        · go_wp2
          go_quiet (fail)
          go_wp2
          refine wp_loop_rounds 1 ?_
          rw [rounds_succ]
          go_wp2
          exact LO.round HB.out nq HM.out hkq
      · rw [hfd] at hlk
        have hcl : ∀ W, Below w.heap.size w W → ∀ (j : Nat) (y : ByteArray), ds[j]? = some y → W.cell? ⟨gr, j, none⟩ = some (.string y) := fun W hW j y hy =>
          (hW.cell (p := ⟨gr, j, none⟩) hgr).trans (hcr j (.string y) (by rw [List.getElem?_map, hy]; rfl))
        have hde : ∀ (j : Nat) (y : ByteArray), ds[j]? = some y → (deads qs x.toList)[j]? = some y.toList ∧ y.size ≤ maxLen := fun j y hy => by
          refine ⟨?_, hdz y (List.mem_of_getElem? hy)⟩
          rw [← hds, List.getElem?_map, hy]; rfl
        have HCL := Lib.hid hcl
        have HDE := Lib.hid hde
        have HDL := Lib.hid hdl
        have hbw2 := fun n => below_drewN hbw n
        clear hcl hde hdl hcr hrow hdz hds hfd
        obtain ⟨i0, hi, hz0, hz1, hz2⟩ := info_parts info9
        go_wp2
        go_quiet (fail)
        go_wp2
        have hI0 := HI.out.drewN nq
        clear hlk cx cj
        go_loopw [12, 55] (fun v i wr2 => ∃ j : Nat, i = .int .i64 j ∧ j ≤ ds.length ∧ LQ w qs na.toList nb.toList k j x v wr2) (fun _ i _ => ds.length - (intOf i).toNat)
        case atStart => exact ⟨0, rfl, Nat.zero_le _, hI0⟩
        case round =>
          clear hI0
          obtain ⟨j, rfl, hj, hIj⟩ := hrel
          by_cases hlt : j < ds.length
          · obtain ⟨y, hy⟩ : ∃ y, ds[j]? = some y := ⟨_, List.getElem?_eq_getElem hlt⟩
            obtain ⟨hdy, hys⟩ := HDE.out j y hy
            obtain ⟨met, rest2, fm, c, g1, g2, g3, g4, g5, g6, g7, g8, g9, g10⟩ := hIj.opened hdy HQ.out
            have cy := HCL.out _ g3.below j y hy
            have hl1 := g4.look keyed9 Try.underlying129 (zero3 _) (key9 hys)
            rw [g6] at hl1
            have hrow := g3.row
            have hzw := g3.size
            have HIJ := Lib.hid hIj
            have HG := Lib.hid (show _ ∧ _ ∧ _ ∧ _ ∧ _ ∧ _ ∧ _ ∧ _ from ⟨g1, g2, g3, g5, g6, g8, hdy, hy⟩)
            clear hIj g1 g2 g3 g5 g6 g8 hdy hy
            by_cases hyb : (y.toList == nb.toList) = true
            · go_wp2
              go_ret
              obtain ⟨h1, _, h3, _, _, _, hdy, _⟩ := HG.out
              exact ⟨⟨true, rfl, by simpa using h1.hit (by rw [hdy, eq_of_beqB hyb])⟩, h3.below⟩
            · have hyb' : (y.toList == nb.toList) = false := by simpa using hyb
              clear hyb
              by_cases hc0 : c = 0
              · subst hc0
                have hm1 : (x :: rest2).length + 1 ≤ 3000000000000 := by simp; omega
                go_wp2_with (first
                  | (at_mapUpdate; (refine wpList_put _ rfl _ _ _ 129 rfl 9 3 keyed9 Try.underlying129 _ _ (.int .i64 0) fm rfl g4 g9 (.string y) (.int .i64 1) rfl rfl (key9 hys) ?_); intro W3 hM3 hg3; have hl3 := hM3.look keyed9 Try.underlying129 (zero3 _) (key9 hys); rw [upd_same] at hl3)
                  | (at_builtin; (refine wpList_append_nx _ rfl _ _ rfl rfl ((hrow.grown hg3 (fun r e => by have := Option.some.inj e; omega)).grown (World.grownBy_alloc _ _ none) (by simp)) (by have := hg3.size; simp; omega) W3.heap.size 0 y rfl (by simp) i0 hi hz0 hz1 hz2 hm1 ?_); rintro v' W4 hn4 ⟨g4', hg4, hg5⟩)
                  | go_in)
                obtain ⟨g1, g2, g3, g5, g6, g8, hdy, hy⟩ := HG.out
                exact ⟨⟨j + 1, by go_num, by omega, LQ.new g1 g2 g3 g5 (g8.1 rfl) (ne_of_beq_false hyb') hys hdy hM3 hg3 hn4 hg4 hg5⟩, by simp [intOf]; omega⟩
              · have hc1 : 1 ≤ c := by omega
                go_wp2_with (first
                  | (at_mapUpdate; (refine wpList_put _ rfl _ _ _ 129 rfl 9 3 keyed9 Try.underlying129 _ _ (.int .i64 0) fm rfl g4 g9 (.string y) (.int .i64 (c + 1)) rfl rfl (key9 hys) ?_); intro W3 hM3 hg3; have hl3 := hM3.look keyed9 Try.underlying129 (zero3 _) (key9 hys); rw [upd_same] at hl3)
                  | go_in)
                obtain ⟨g1, g2, g3, g5, g6, g8, hdy, hy⟩ := HG.out
                exact ⟨⟨j + 1, by go_num, by omega, LQ.old g1 g2 g3 g5 g6 g8 hc0 hdy hM3 hg3⟩, by simp [intOf]; omega⟩
          · obtain rfl : j = ds.length := by omega
            obtain ⟨g2, off2, n2, cap2, rfl, hnc⟩ := hIj.form
            obtain ⟨hA, hB⟩ := LQ.closeAt hIj HDL.out
            have HA := Lib.hid hA
            have HB := Lib.hid hB
            clear hIj hA hB
            have hc5 : (1 : Int) ≤ (cap2 : Int) := by omega
            by_cases hcap : cap2 = 1
            · subst hcap
              obtain rfl : n2 = 0 := by omega
              go_wp2
              exact LO.round (HA.out rfl) 0 HM.out hkq
            · go_wp2
              exact LO.round HB.out 0 HM.out hkq

set_option maxHeartbeats 1000000 in
/-- The program's leads (no condition but the sizes). -/
theorem pleads_any (base hd N jb : Nat) (fd : Value → Value) (qs : List Qc) (a b : ByteArray) (w : World) (hq : qs.length * 56 ≤ 140737488351232) (hj : w.cell? ⟨jb, 0, none⟩ = some (.map (some hd))) (hjb : jb < w.heap.size) (hD : DeadAt base w hd N fd qs) (ha : a.size ≤ maxLen) :
    Calls Try.prog 55 #[.pointer (some ⟨jb, 0, none⟩), .string a, .string b] w fun r w' => r = .returned (.bool (leadsB qs a.toList b.toList)) ∧ Below w.heap.size w w' := by
  cases h : (a.toList == b.toList) with
  | true => exact (pleads_same _ a b w h).mono fun r w' ⟨e1, e2⟩ => ⟨by rw [e1, leads_same h], e2 ▸ Below.refl _ _⟩
  | false =>
    cases ht : beginsB a.toList topicB with
    | true => exact (pleads_topic _ a b w h ht).mono fun r w' ⟨e1, e2⟩ => ⟨by rw [e1, leads_topic ht], e2 ▸ Below.refl _ _⟩
    | false =>
      cases h1 : beginsB a.toList queueB with
      | false => exact (pleads_no _ a b w false _ h ht h1 rfl rfl).mono fun r w' ⟨e1, e2⟩ => ⟨by rw [e1, leads_one h ht h1], e2 ▸ Below.refl _ _⟩
      | true =>
        cases h2 : beginsB b.toList queueB with
        | false => exact (pleads_no _ a b w true false h ht h1 h2 rfl).mono fun r w' ⟨e1, e2⟩ => ⟨by rw [e1, leads_two h ht h2], e2 ▸ Below.refl _ _⟩
        | true =>
          refine (pleads_way base hd N jb fd qs a b _ _ w hq hj hjb hD h ht h1 h2 rfl rfl (Nat.le_trans (cutA_size _ _) ha)).mono ?_
          rintro r w' ⟨⟨x, e1, e2⟩, e3⟩
          refine ⟨?_, e3⟩
          rw [e1, leads_way h ht h1 h2 (r := x)]
          rw [e2, cutA_yes (h := queueA) (by rw [queueA_list]; exact h1), cutA_yes (h := queueA) (by rw [queueA_list]; exact h2)]
          rfl

end Go.Proofs.Ytgincippgaecfaa.Au
