/-
  Maps as functions of their keys' values; what lies in them is told raw. No program's code in sight.
-/
import Derived.Test.YtgincippgaecfaaM
import Derived.Test.YtgincippgaecfaaLeaf
import Derived.Maps.OwnSet
import Derived.Maps.GroupsBeside
import Derived.DeepKeys4
import Derived.WideKeyEntry
namespace Go.Proofs.Ytgincippgaecfaa.Au
open Go Go.RowKit Go.Maps Go.WideElems

abbrev DV := DataW Value
def rawR (v : Value) : Option (DV × List MemPlace) := some (.held v, [])

/-- Block b is a map of at most n entries; at key x it tells f x (z: what it tells where nothing lies). -/
def MapV (W : World) (k : TypeId) (b n : Nat) (z : Value) (f : Value → Value) : Prop :=
  ∃ D : DV, W.ownsMap Try.prog k rawR b n D ∧ IsMap D ∧ ∀ x l, keyOf Try.prog k x = some l → D.atKey l (.held z) = .held (f x)

def KeyOk (k : TypeId) (x : Value) : Prop := ∃ l, keyOf Try.prog k x = some l

section
variable {W W' : World} {k : TypeId} {b n : Nat} {z : Value} {f : Value → Value}

theorem MapV.made (W : World) (k : TypeId) (z : Value) : MapV (W.alloc (.map #[] 0)) k W.heap.size 0 z fun _ => z :=
  ⟨.map [], World.ownsMap_made W Try.prog k rawR, ⟨[], rfl⟩, fun _ _ _ => rfl⟩
theorem MapV.lt (h : MapV W k b n z f) : b < W.heap.size := by
  obtain ⟨D, ho, _⟩ := h
  exact ho.lt
theorem MapV.kept {row : Option Nat} (h : MapV W k b n z f) (hg : W.grownBy W' row) (hne : some b ≠ row) : MapV W' k b n z f := by
  obtain ⟨D, ho, hi, ha⟩ := h
  exact ⟨D, ho.kept hg hne, hi, ha⟩
theorem MapV.alloc (h : MapV W k b n z f) (o : Obj) : MapV (W.alloc o) k b n z f := by
  obtain ⟨D, ho, hi, ha⟩ := h
  exact ⟨D, ho.alloc o, hi, ha⟩
theorem MapV.drew (h : MapV W k b n z f) : MapV W.drew k b n z f := h
theorem MapV.mono (h : MapV W k b n z f) {m : Nat} (hm : n ≤ m) : MapV W k b m z f := by
  obtain ⟨D, ho, hi, ha⟩ := h
  exact ⟨D, ho.mono hm, hi, ha⟩
theorem MapV.at_block (h : MapV W k b n z f) (hh : W'.heap[b]? = W.heap[b]?) : MapV W' k b n z f := by
  obtain ⟨D, ⟨es, clock, hb, r⟩, hi, ha⟩ := h
  exact ⟨D, ⟨es, clock, hh.trans hb, r⟩, hi, ha⟩
theorem MapV.below {m : Nat} (h : MapV W k b n z f) (hw : Below m W W') (hb : b < m) : MapV W' k b n z f := h.at_block (hw.block b hb)

theorem MapV.look {t e : TypeId} (h : MapV W k b n z f) (K : Keyed Try.prog k) (ht : Try.prog.underlying t = some (.map k e)) (hz : (zeroValue e).run Try.prog W = .ok z W) {x : Value} (hx : KeyOk k x) :
    (Instr.lookup t (.map (some b)) x false).run Try.prog W = .ok (f x) W := by
  obtain ⟨D, ho, hi, ha⟩ := h
  obtain ⟨l, hl⟩ := hx
  obtain ⟨v, ps, hr, hv⟩ := ho.lookup K ht hz (zd := .held z) (zp := []) rfl hl
  rw [ha x l hl] at hv
  have : v = f x := by
    unfold rawR at hv
    simpa using congrArg Prod.fst (Option.some.inj hv)
  rw [hr, this]

theorem put_tells {D : DV} (K : Keyed Try.prog k) (hi : IsMap D) (ha : ∀ x l, keyOf Try.prog k x = some l → D.atKey l (.held z) = .held (f x)) {x v : Value} {l : Lit} (hl : keyOf Try.prog k x = some l) {f' : Value → Value} (h1 : f' x = v) (h2 : ∀ y, y ≠ x → f' y = f y) :
    IsMap (D.put l (.held v)) ∧ ∀ y l', keyOf Try.prog k y = some l' → (D.put l (.held v)).atKey l' (.held z) = .held (f' y) := by
  refine ⟨hi.put _ _, fun y l' hl' => ?_⟩
  by_cases hy : y = x
  · subst hy
    rw [hl] at hl'; cases hl'
    rw [atKey_put_same hi (K.key hl), h1]
  · have hne : l' ≠ l := fun e => hy (K.inj hl' (e ▸ hl))
    rw [atKey_put_other hne, ha y l' hl', h2 y hy]

theorem MapV.put {t e : TypeId} (h : MapV W k b n z f) (K : Keyed Try.prog k) (ht : Try.prog.underlying t = some (.map k e)) (hn : n < maxLen) {x : Value} (hx : KeyOk k x) (v : Value) :
    ∃ W', (Instr.mapUpdate t (.map (some b)) x v).run Try.prog W = .ok () W' ∧ (∀ f', f' x = v → (∀ y, y ≠ x → f' y = f y) → MapV W' k b (n + 1) z f') ∧ W.grownBy W' (some b) := by
  obtain ⟨D, ho, hi, ha⟩ := h
  obtain ⟨l, hl⟩ := hx
  obtain ⟨W', hr, ho', hg⟩ := ho.update K ht hn (val := v) hl rfl
  exact ⟨W', hr, fun f' h1 h2 => ⟨_, ho', put_tells K hi ha hl h1 h2⟩, hg⟩

theorem entry_same {es : Array MapEntry} {clock : Nat} {t e : TypeId} (K : WideMaps.KeyLaw Try.prog k) (ht : Try.prog.underlying t = some (.map k e)) (hz : ∀ u : World, (zeroValue e).run Try.prog u = .ok z u) (hb : W.heap[b]? = some (.map es clock)) (F : Fit Try.prog k rawR es clock) {x : Value} {l : Lit} (hl : keyOf Try.prog k x = some l) :
    ∃ v0 st es1 clock1, (Instr.mapEntry t (.map (some b)) x).run Try.prog W = .ok (.tuple #[v0, goInt st]) (ChangeMaps.setBlock W b (.map es1 clock1)) ∧ (Instr.mapUpdate t (.map (some b)) x v0).run Try.prog W = .ok () (ChangeMaps.setBlock W b (.map es1 clock1)) ∧ (Instr.lookup t (.map (some b)) x false).run Try.prog W = .ok v0 W := by
  rcases K.find W hl es.toList F.keys with ⟨h1, h2⟩ | ⟨j, e0, h1, h2, h3⟩
  · refine ⟨z, clock, es.push ⟨x, z, clock⟩, clock + 1, ?_, ?_, ?_⟩
    · simp [Instr.mapEntry, run_underlying ht, MapKept.run_getObj_map hb, K.check W false hl, h1, hz, MapKept.run_setObj_map _ hb, Result.andThen, ChangeMaps.setBlock]
    · simp [Instr.mapUpdate, run_underlying ht, MapKept.run_getObj_map hb, K.check W false hl, h1, MapKept.run_setObj_map _ hb, Result.andThen, ChangeMaps.setBlock]
    · simp [Instr.lookup, run_underlying ht, MapKept.run_getObj_map hb, K.check W _ hl, h1, hz, Result.andThen]
  · have hj : es[j]? = some e0 := by simpa using h2
    have hsame : es.modify j (fun e => { e with key := x }) = es := by
      apply Array.ext'
      rw [Array.toList_modify, ChangeMaps.modify_eq_set _ _ _ _ h2]
      have : ({ e0 with key := x } : MapEntry) = e0 := by rw [← h3]
      rw [this]
      exact set_self _ _ _ h2
    have hsame2 : es.modify j (fun e => { e with key := x, val := e0.val }) = es := by
      apply Array.ext'
      rw [Array.toList_modify, ChangeMaps.modify_eq_set _ _ _ _ h2]
      have : ({ e0 with key := x, val := e0.val } : MapEntry) = e0 := by rw [← h3]
      rw [this]
      exact set_self _ _ _ h2
    refine ⟨e0.val, e0.born, es, clock, ?_, ?_, ?_⟩
    · simp [Instr.mapEntry, run_underlying ht, MapKept.run_getObj_map hb, K.check W false hl, h1, hj, h3, K.stays W hl, hsame, MapKept.run_setObj_map _ hb, Result.andThen, ChangeMaps.setBlock]
    · simp [Instr.mapUpdate, run_underlying ht, MapKept.run_getObj_map hb, K.check W false hl, h1, hj, h3, K.stays W hl, hsame2, MapKept.run_setObj_map _ hb, Result.andThen, ChangeMaps.setBlock]
    · simp [Instr.lookup, run_underlying ht, MapKept.run_getObj_map hb, K.check W _ hl, h1, Result.andThen]

theorem setBlock_inj {A : World} {o o' o'' : Obj} (hA : A.heap[b]? = some o) (h : ChangeMaps.setBlock A b o' = ChangeMaps.setBlock A b o'') : o' = o'' := by
  have h1 := congrArg (fun w : World => w.heap[b]?) h
  have hlt : b < A.heap.size := (Array.getElem?_eq_some_iff.1 hA).1
  simpa [ChangeMaps.setBlock, hlt] using h1

theorem MapV.entry {t e : TypeId} (h : MapV W k b n z f) (K : WideMaps.KeyLaw Try.prog k) (ht : Try.prog.underlying t = some (.map k e)) (hz : ∀ u : World, (zeroValue e).run Try.prog u = .ok z u) (hn : n < maxLen) {x : Value} (hx : KeyOk k x) :
    ∃ v0 st W1, (Instr.mapEntry t (.map (some b)) x).run Try.prog W = .ok (.tuple #[v0, goInt st]) W1 ∧ MapV W1 k b (n + 1) z f ∧ W.grownBy W1 (some b) ∧
      ∀ (W2 : World) (v : Value), W2.heap[b]? = W1.heap[b]? → ∃ W3, (Instr.entryStore t (.map (some b)) (goInt st) v).run Try.prog W2 = .ok () W3 ∧ W2.grownBy W3 (some b) ∧ ∀ f', f' x = v → (∀ y, y ≠ x → f' y = f y) → MapV W3 k b (n + 1) z f' := by
  have K' := Keyed.of_law K
  have h0 := h
  obtain ⟨D, ho, hi, ha⟩ := h
  obtain ⟨l, hl⟩ := id hx
  have ho0 := ho
  obtain ⟨es, clock, hb, F, hs, hD⟩ := ho0
  have hblt := ho.lt
  obtain ⟨v0, st, es1, clock1, hr, hu, hlk⟩ := entry_same K ht hz hb F hl
  obtain ⟨v0', st', es1', clock1', hr', _, hst⟩ := entry_then_store K ht hz hb F hl
  rw [hr] at hr'
  simp only [Result.ok.injEq, Value.tuple.injEq] at hr'
  obtain ⟨he1, he2⟩ := hr'
  have he3 : v0 = v0' ∧ goInt st = goInt st' := by simpa using he1
  obtain ⟨rfl, hst'⟩ := he3
  have he4 := setBlock_inj hb he2
  simp only [Obj.map.injEq] at he4
  obtain ⟨rfl, rfl⟩ := he4
  rw [← hst'] at hst
  have hv0 : v0 = f x := by
    have h1 := h0.look K' ht (hz W) hx
    rw [hlk] at h1
    simpa using h1
  have at_b : ∀ (A : World) (o : Obj), b < A.heap.size → (ChangeMaps.setBlock A b o).heap[b]? = some o := fun A o hA => by simp [ChangeMaps.setBlock, hA]
  have gset : ∀ (A : World) (o : Obj), A.grownBy (ChangeMaps.setBlock A b o) (some b) := fun A o =>
    ⟨rfl, rfl, rfl, by simp [ChangeMaps.setBlock], fun i hi hne => by
      have hib : b ≠ i := fun e => hne (by rw [e])
      simp [ChangeMaps.setBlock, hib]⟩
  refine ⟨v0, st, _, hr, ?_, gset _ _, fun W2 v hW2 => ?_⟩
  · obtain ⟨W', hr2, hm2, _⟩ := h0.put K' ht hn hx v0
    rw [hu] at hr2
    obtain rfl : ChangeMaps.setBlock W b (.map es1 clock1) = W' := by simpa using hr2
    exact hm2 f hv0.symm fun _ _ => rfl
  · rw [at_b _ _ hblt] at hW2
    obtain ⟨es', clock', h3, h4⟩ := hst W2 v hW2
    refine ⟨_, h3, gset _ _, fun f' e1 e2 => ?_⟩
    obtain ⟨W', hr2, hm2, _⟩ := h0.put K' ht hn hx v
    rw [h4] at hr2
    obtain rfl : ChangeMaps.setBlock W b (.map es' clock') = W' := by simpa using hr2
    have := hm2 f' e1 e2
    refine this.at_block ?_
    rw [at_b _ _ (Array.getElem?_eq_some_iff.1 hW2).1, at_b _ _ hblt]
end

/-! ### The types of the keys. -/
theorem keyed9 : Keyed Try.prog 9 := string_keyed Try.underlying9
theorem keyed3 : Keyed Try.prog 3 := int_keyed Try.underlying3
theorem laidOut' : laidOutB Try.prog = true := by kernel_rfl
theorem law55 : WideMaps.KeyLaw Try.prog 55 := deep_law_laid laidOut' (m := 2) (by omega) (of_decide_eq_true (by kernel_rfl)) (by kernel_rfl) (by rw [Try.underlying55])
theorem keyed55 : Keyed Try.prog 55 := Keyed.of_law law55
theorem zero3 (w : World) : (zeroValue 3).run Try.prog w = .ok (.int .i64 0) w := by kernel_rfl
theorem zero67 (w : World) : (zeroValue 67).run Try.prog w = .ok (.slice none 0 0) w := by kernel_rfl
theorem zero23 (w : World) : (zeroValue 23).run Try.prog w = .ok (.slice none 0 0) w := by kernel_rfl

theorem key9 {s : ByteArray} (h : s.size ≤ maxLen) : KeyOk 9 (.string s) := ⟨_, WideMaps.keyOf_string_mk Try.underlying9 h⟩
theorem key3 {m : Int} (h : (Lit.int .i64 m).wf = true) : KeyOk 3 (.int .i64 m) := ⟨_, keyOf_int_mk Try.underlying3 h⟩
theorem typeKey55 : Try.prog.keyType 55 = true := by kernel_rfl
theorem cells55' : Try.prog.cellsOf 55 = 6 := by kernel_rfl
theorem cells3' : Try.prog.cellsOf 3 = 1 := by kernel_rfl
theorem cells9' : Try.prog.cellsOf 9 = 1 := by kernel_rfl
theorem cells4' : Try.prog.cellsOf 4 = 1 := by kernel_rfl
theorem typesSize : ∃ n, Try.prog.types.size = n + 1 := ⟨Try.prog.types.size - 1, by
  have : 0 < Try.prog.types.size := of_decide_eq_true (by kernel_rfl)
  omega⟩

theorem key55 {e : Ent} (h0 : (Lit.int .i64 e.kind).wf = true) (h1 : (Lit.int .i64 e.who).wf = true) (h2 : e.queue.size ≤ maxLen) (h3 : (Lit.int .i64 e.msg).wf = true) (h4 : (Lit.int .i64 e.count).wf = true) : KeyOk 55 e.val := by
  have hf : e.val.formed Try.prog 55 = true := by simp [Value.formed, Try.underlying55, cells55']
  obtain ⟨n, hn⟩ := typesSize
  refine ⟨.string (keyBytes [.int .i64 e.kind, .int .i64 e.who, .string e.queue.data.toList, .int .i64 e.msg, .int .i64 e.count, .bool e.dur]), ?_⟩
  unfold keyOf
  rw [Try.underlying55]
  simp only [typeKey55, hf, Bool.and_self, if_true, hn]
  rw [show Try.prog.keyLits (n + 1 + 1) 55 e.val.cells.toList = some [.int .i64 e.kind, .int .i64 e.who, .string e.queue.data.toList, .int .i64 e.msg, .int .i64 e.count, .bool e.dur] from ?_]
  · rfl
  · simp [Program.keyLits, Try.underlying55, Try.underlying3, Try.underlying9, Try.underlying4, cells55', cells3', cells9', cells4', Value.cells, h0, h1, h2, h3, h4]

end Go.Proofs.Ytgincippgaecfaa.Au
