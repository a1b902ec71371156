/-
  lentFault: a fault is lent. Loads and stores of structs given to the walk as facts. No condition but that its value lies so and is not great.
-/
import Derived.Test.YtckggmcjcdkfhaaGreatDoorS4
import Derived.Test.YtckggmcjcdkfhaaGreatDoorL3
import Derived.Test.YtckggmcjcdkfhaaGreatDoorNuStt
namespace Go.Proofs.YtckggmcjcdkfhaaGreatDoor.Va
open Go Go.RowKit Go.Proofs.Nu
attribute [-go_sem] Go.Instr.loadAt Go.Instr.storeAt

theorem results_mid {P : Program} {fn : Func} {p : Tmp} {ty : TypeId} {tmps : Array Value} {w : World} {g : Nat} {v : Value} (h : fn.results = #[.cell p ty]) (hp : tmps.getD p undef = .pointer (some ⟨g, 0, none⟩)) (hld : (loadVar ty ⟨g, 0, none⟩).run P w = .ok v w) :
    (results fn tmps).run P w = .ok v w := by
  have hp' : tmps[p]?.getD undef = .pointer (some ⟨g, 0, none⟩) := by simpa using hp
  simp [results, h, hp', asAddr, hld]
/-- A fault's cells. -/
def fcells (c t : ByteArray) (i : VT) (il : Value) : List Value := [.string c, .string t, .int .i64 i.kind, .int .u64 i.num, .string i.text, il, .int .i64 i.elem]
theorem load_fault {w : World} {b o : Nat} {c t : ByteArray} {i : VT} {il : Value} (h : Cells w b o (fcells c t i il)) : (Instr.loadAt 27 (.pointer (some ⟨b, o, none⟩))).run Tryz.prog w = .ok (.agg #[.string c, .string t, .int .i64 i.kind, .int .u64 i.num, .string i.text, il, .int .i64 i.elem]) w :=
  Go.run_loadAt_mid w b o 27 (fcells c t i il) _ h Tryz.underlying27 rfl (by kernel_rfl)
theorem loadVar_fault {w : World} {b o : Nat} {c t : ByteArray} {i : VT} {il : Value} (h : Cells w b o (fcells c t i il)) : (loadVar 27 ⟨b, o, none⟩).run Tryz.prog w = .ok (.agg #[.string c, .string t, .int .i64 i.kind, .int .u64 i.num, .string i.text, il, .int .i64 i.elem]) w :=
  Go.run_loadVar_mid w b o 27 (fcells c t i il) _ h Tryz.underlying27 rfl (by kernel_rfl)
theorem store_value {w : World} {b o : Nat} {t : VT} {a : Option Addr} {n c : Nat} (h : w.there b o 5) : (Instr.storeAt 25 (.pointer (some ⟨b, o, none⟩)) (.agg #[.int .i64 t.kind, .int .u64 t.num, .string t.text, .slice a n c, .int .i64 t.elem])).run Tryz.prog w = .ok () (w.setCells b o (t.cells (.slice a n c))) :=
  Go.run_storeAt_mid w b o 25 #[.int .i64 t.kind, .int .u64 t.num, .string t.text, .slice a n c, .int .i64 t.elem] h (by kernel_rfl) (by simp [Value.oneCell'])
theorem store_fault {w : World} {b o : Nat} {x t : ByteArray} {i : VT} {a : Option Addr} {n c : Nat} (h : w.there b o 7) : (Instr.storeAt 27 (.pointer (some ⟨b, o, none⟩)) (.agg #[.string x, .string t, .int .i64 i.kind, .int .u64 i.num, .string i.text, .slice a n c, .int .i64 i.elem])).run Tryz.prog w = .ok () (w.setCells b o (fcells x t i (.slice a n c))) :=
  Go.run_storeAt_mid w b o 27 #[.string x, .string t, .int .i64 i.kind, .int .u64 i.num, .string i.text, .slice a n c, .int .i64 i.elem] h (by kernel_rfl) (by simp [Value.oneCell'])
theorem cells_has {w : World} {b : Nat} {cs : List Value} (h : Cells w b 0 cs) : Has w b cs.length := fun j hj => ⟨cs[j], by have := h j _ (List.getElem?_eq_getElem hj); rwa [Nat.zero_add] at this⟩
/-- Two new blocks, whatever is behind them. -/
theorem two_cells {w w2 : World} {cs ds : List Value} {T : TypeId} (h : Below (w.heap.size + 2) ((w.alloc (.cells cs.toArray T)).alloc (.cells ds.toArray T)) w2) :
    Cells w2 w.heap.size 0 cs ∧ Cells w2 (w.heap.size + 1) 0 ds ∧ (∀ j, w2.frozen? ⟨w.heap.size, j, none⟩ = false) ∧ (∀ j, w2.frozen? ⟨w.heap.size + 1, j, none⟩ = false) ∧ Below w.heap.size w w2 ∧ w.heap.size + 2 ≤ w2.heap.size := by
  obtain ⟨h1, h2, h3, h4⟩ := two_blocks (w := w) (o := .cells cs.toArray T) (o' := .cells ds.toArray T) rfl
  have k1 := (h.block w.heap.size (by omega)).trans h1
  have k2 := (h.block (w.heap.size + 1) (by omega)).trans h2
  refine ⟨Cells.of_heap k1, Cells.of_heap k2, fun j => by simp [World.frozen?, k1], fun j => by simp [World.frozen?, k2], h4.trans (h.mono (by omega)), by have := h.size; omega⟩
theorem setCells_keep {w : World} {b o : Nat} {vs : List Value} {b' o' : Nat} {cs : List Value} (h : Cells w b' o' cs) (hne : b' ≠ b ∨ o' + cs.length ≤ o ∨ o + vs.length ≤ o') : Cells (w.setCells b o vs) b' o' cs :=
  h.keep fun j hj => World.cell?_setCells_out b vs o w ⟨b', o' + j, none⟩ (fun h1 _ => by have h1 : b' = b := h1; rcases hne with h2 | h2 | h2 <;> first | exact absurd h1 h2 | exact .inl (by show o' + j < o; omega) | exact .inr (by show o + vs.length ≤ o' + j; omega))
theorem cells_app {w : World} {b o : Nat} {cs ds : List Value} (h1 : Cells w b o cs) (h2 : Cells w b (o + cs.length) ds) : Cells w b o (cs ++ ds) := fun j u hu => by
  rcases Nat.lt_or_ge j cs.length with h | h
  · rw [List.getElem?_append_left h] at hu; exact h1 j u hu
  · rw [List.getElem?_append_right h] at hu
    have := h2 _ u hu
    rwa [show o + cs.length + (j - cs.length) = o + j by omega] at this
theorem cells_left {w : World} {b o : Nat} {cs ds : List Value} (h : Cells w b o (cs ++ ds)) : Cells w b o cs := fun j u hu => h j u (by rw [List.getElem?_append_left (List.getElem?_eq_some_iff.1 hu).1]; exact hu)
theorem cells_right {w : World} {b o : Nat} {cs ds : List Value} (h : Cells w b o (cs ++ ds)) : Cells w b (o + cs.length) ds := fun j u hu => by
  have := h (cs.length + j) u (by rw [List.getElem?_append_right (by omega)]; rw [show cs.length + j - cs.length = j by omega]; exact hu)
  rwa [← Nat.add_assoc] at this

set_option maxRecDepth 100000 in
set_option maxHeartbeats 1000000 in
theorem lentF_any {N B : Nat} (x t : ByteArray) (i : VT) (il : Value) (w : World) (hl : LAt B w N il i.list) (hs : Sms i.list) (hB : B ≤ w.heap.size) :
    Calls Tryz.prog 18 #[.agg #[.string x, .string t, .int .i64 i.kind, .int .u64 i.num, .string i.text, il, .int .i64 i.elem]] w fun r w' => ∃ b', r = .returned (.agg #[.string x, .string t, .int .i64 i.kind, .int .u64 i.num, .string i.text, .slice (some ⟨b', 0, none⟩) i.list.length (i.list.length + 3), .int .i64 i.elem]) ∧ LentAt w' N w.heap.size w'.heap.size (.slice (some ⟨b', 0, none⟩) i.list.length (i.list.length + 3)) i.list ∧ Below w.heap.size w w' := by
  have HK : Hid (∀ w2, Below (w.heap.size + 2) ((w.alloc (.cells (fcells x t i il).toArray 27)).alloc (.cells (fcells ⟨#[]⟩ ⟨#[]⟩ (.mk 0 0 ⟨#[]⟩ 0 []) (.slice none 0 0)).toArray 27)) w2 → Cells w2 w.heap.size 0 (fcells x t i il) ∧ Cells w2 (w.heap.size + 1) 0 (fcells ⟨#[]⟩ ⟨#[]⟩ (.mk 0 0 ⟨#[]⟩ 0 []) (.slice none 0 0)) ∧ (∀ j, w2.frozen? ⟨w.heap.size, j, none⟩ = false) ∧ (∀ j, w2.frozen? ⟨w.heap.size + 1, j, none⟩ = false) ∧ Below w.heap.size w w2 ∧ w.heap.size + 2 ≤ w2.heap.size) := fun w2 h => two_cells h
  obtain ⟨W1, hW1⟩ : ∃ W1, (w.alloc (.cells #[.string x, .string t, .int .i64 i.kind, .int .u64 i.num, .string i.text, il, .int .i64 i.elem] 27)).alloc (.cells #[.string ⟨#[]⟩, .string ⟨#[]⟩, .int .i64 0, .int .u64 0, .string ⟨#[]⟩, .slice none 0 0, .int .i64 0] 27) = W1 := ⟨_, rfl⟩
  have HK2 : Hid (∀ w2, Below (w.heap.size + 2) W1 w2 → Cells w2 w.heap.size 0 (fcells x t i il) ∧ Cells w2 (w.heap.size + 1) 0 (fcells ⟨#[]⟩ ⟨#[]⟩ (.mk 0 0 ⟨#[]⟩ 0 []) (.slice none 0 0)) ∧ (∀ j, w2.frozen? ⟨w.heap.size, j, none⟩ = false) ∧ (∀ j, w2.frozen? ⟨w.heap.size + 1, j, none⟩ = false) ∧ Below w.heap.size w w2 ∧ w.heap.size + 2 ≤ w2.heap.size) := fun w2 h => HK.out w2 (by rw [← hW1] at h; exact h)
  obtain ⟨k1, _, _, _, kb1, ks1⟩ := HK2.out W1 (Below.refl _ _)
  have hz1 : W1.heap.size = w.heap.size + 2 := by rw [← hW1, heap_alloc_size, heap_alloc_size]
  have hld1 : (Instr.loadAt 25 (.pointer (some ⟨w.heap.size, 2, none⟩))).run Tryz.prog W1 = .ok (.agg #[.int .i64 i.kind, .int .u64 i.num, .string i.text, il, .int .i64 i.elem]) W1 := load_value (cells_right (cs := [.string x, .string t]) k1)
  have HC := Lib.hid (lent_of (lents N) B i.kind i.num i.text i.elem i.list il W1 (hl.below (kb1.mono hB)) hs (by omega))
  clear k1 kb1 ks1 HK hl hs
  go_enter Tryz.func18, Tryz.ntmps18
  go_wp2_with (fail)
  clear hW1
  refine HC.out.mono ?_
  rintro r w2 ⟨v', rfl, hL, hb2⟩
  obtain ⟨b', hv'⟩ := hL.form
  subst hv'
  obtain ⟨c1, c2, f1, f2, kb, ks⟩ := HK2.out w2 (hb2.mono (by omega))
  have n1 := cells_has c1
  have n2 := cells_has c2
  have hst1 := store_value (t := i) (a := some ⟨b', 0, none⟩) (n := i.list.length) (c := i.list.length + 3) (n1.there f1 (o := 2) (n := 5) (Nat.le_refl _))
  have x1 : Cells (w2.setCells w.heap.size 2 (i.cells (.slice (some ⟨b', 0, none⟩) i.list.length (i.list.length + 3)))) w.heap.size 0 (fcells x t i (.slice (some ⟨b', 0, none⟩) i.list.length (i.list.length + 3))) :=
    cells_app (cs := [.string x, .string t]) (setCells_keep (cells_left (cs := [.string x, .string t]) c1) (.inr (.inl (Nat.le_refl _)))) (n1.setC (Nat.le_refl _))
  have x2 := setCells_keep (b := w.heap.size) (o := 2) (vs := i.cells (.slice (some ⟨b', 0, none⟩) i.list.length (i.list.length + 3))) c2 (.inl (by omega))
  have xf : ∀ j, (w2.setCells w.heap.size 2 (i.cells (.slice (some ⟨b', 0, none⟩) i.list.length (i.list.length + 3)))).frozen? ⟨w.heap.size + 1, j, none⟩ = false := fun j => (World.frozen?_setCells _ _ _ _ _).trans (f2 j)
  have xb := setCells_below (B := w.heap.size) (Nat.le_refl w.heap.size) (i.cells (.slice (some ⟨b', 0, none⟩) i.list.length (i.list.length + 3))) 2 w2 kb
  have xa := setCells_apart (lo := w.heap.size) (hi := w.heap.size + 2) (b := w.heap.size) (Nat.le_refl _) (by omega) (i.cells (.slice (some ⟨b', 0, none⟩) i.list.length (i.list.length + 3))) 2 w2 (Apart.refl _ _ w2)
  have xz := setCells_size w2 w.heap.size (i.cells (.slice (some ⟨b', 0, none⟩) i.list.length (i.list.length + 3))) 2 w2
  generalize w2.setCells w.heap.size 2 (i.cells (.slice (some ⟨b', 0, none⟩) i.list.length (i.list.length + 3))) = X at *
  have hld2 := load_fault x1
  have n3 := cells_has x2
  have hst2 := store_fault (x := x) (t := t) (i := i) (a := some ⟨b', 0, none⟩) (n := i.list.length) (c := i.list.length + 3) (n3.there xf (o := 0) (n := 7) (Nat.le_refl _))
  have y1 : Cells (X.setCells (w.heap.size + 1) 0 (fcells x t i (.slice (some ⟨b', 0, none⟩) i.list.length (i.list.length + 3)))) (w.heap.size + 1) 0 (fcells x t i (.slice (some ⟨b', 0, none⟩) i.list.length (i.list.length + 3))) := n3.setC (Nat.le_refl _)
  have yb := setCells_below (B := w.heap.size) (b := w.heap.size + 1) (Nat.le_succ _) (fcells x t i (.slice (some ⟨b', 0, none⟩) i.list.length (i.list.length + 3))) 0 X xb
  have ya := setCells_apart (lo := w.heap.size) (hi := w.heap.size + 2) (b := w.heap.size + 1) (by omega) (by omega) (fcells x t i (.slice (some ⟨b', 0, none⟩) i.list.length (i.list.length + 3))) 0 X xa
  have yz := setCells_size X (w.heap.size + 1) (fcells x t i (.slice (some ⟨b', 0, none⟩) i.list.length (i.list.length + 3))) 0 X
  generalize X.setCells (w.heap.size + 1) 0 (fcells x t i (.slice (some ⟨b', 0, none⟩) i.list.length (i.list.length + 3))) = Y at *
  have HY := Lib.hid (loadVar_fault y1)
  have HR : Hid (LentAt Y N w.heap.size Y.heap.size (.slice (some ⟨b', 0, none⟩) i.list.length (i.list.length + 3)) i.list ∧ Below w.heap.size w Y) := ⟨by
    rw [yz, xz]
    exact (hL.apart ya (Nat.le_refl _) (.inr (by omega))).lo (by omega), yb⟩
  clear c1 c2 f1 f2 kb ks n1 n2 n3 x1 x2 xf xb xa xz y1 yb ya yz hL hb2
  go_wp2
  exact bodyPost_ret_by (results_mid rfl rfl HY.out) rfl ⟨b', rfl, HR.out.1, HR.out.2⟩
end Go.Proofs.YtckggmcjcdkfhaaGreatDoor.Va
