/-
  The library's sort.Slice by the first got, and slices.IsSortedFunc by the first sent, over a list of messages that the call owns. No condition but the maps' functions and the length.
-/
import Derived.Test.YtgincippgaecfaaS1
import Derived.Sort.OwnSortedInts
namespace Go.Proofs.Ytgincippgaecfaa.Au
open Go Go.RowKit Go.Maps Go.Sort Go.Shelf Go.Lib

noncomputable def siT : TypeInfo := (Try.prog.info? 33).get (by kernel_rfl)
noncomputable def siE : TypeInfo := (Try.prog.info? 3).get (by kernel_rfl)
theorem siK (n : Nat) (h2 : 2 ≤ n) : Lib.swapperK n siE 2 = 5 := by
  have a : siE.hasPointers = false := by kernel_rfl
  have b : siE.bytes = 8 := by kernel_rfl
  have c : (n == 0) = false := by simp; omega
  have d : (n == 1) = false := by simp; omega
  simp [Lib.swapperK, a, b, c, d]
theorem siK1 (n : Nat) (h1 : n ≤ 1) : Lib.swapperK n siE 2 = n + 1 := by
  rcases Nat.eq_zero_or_pos n with h | h
  · subst h; simp [Lib.swapperK]
  · obtain rfl : n = 1 := by omega
    simp [Lib.swapperK]

def ltG (f : Int → Option Nat) (x y : I64) : Bool := decide (valOf f x.1 < valOf f y.1)
theorem swo_ltG (f : Int → Option Nat) : SWO (ltG f) where
  irrefl x := by simp [ltG]
  trans x y z h1 h2 := by simp only [ltG, decide_eq_true_eq] at *; omega
  ntrans x y z h1 h2 := by simp only [ltG, decide_eq_false_iff_not] at *; omega

theorem sorted_grown (W : World) (g n : Nat) (os : Array Obj) (d : Array I64) : W.grownBy (grow (putRow encI (Sort.ahead W n) g 0 d) os) (some g) := by
  refine ⟨rfl, rfl, rfl, by simp, fun k hk hne => ?_⟩
  rw [heap_grow_old _ _ (by simpa using hk)]
  have : g ≠ k := fun e => hne (by rw [e])
  simp [putRow, mapBlock, Sort.ahead, Array.getElem?_modify, this]

theorem holds_own {W : World} {g : Nat} {cur : Array Value} {ss : List I64} (hb : W.heap[g]? = some (.cells cur 3 (0, 0))) (ht : cur.toList.take (ss.length * 1) = ss.map encI) : Holds encI W g 0 ss.toArray := by
  intro j hj
  have hj' : j < ss.length := by simpa using hj
  refine ⟨?_, by simp [World.frozen?, hb]⟩
  have h1 : (cur.toList.take (ss.length * 1))[j]? = (ss.map encI)[j]? := by rw [ht]
  rw [List.getElem?_take_of_lt (by omega)] at h1
  simp only [World.cell?, hb, Nat.zero_add]
  simp only [Option.isSome_none, Bool.false_eq_true, if_false]
  rw [← Array.getElem?_toList, h1]
  simp [hj']

theorem heap_put {W : World} {g n : Nat} {os : Array Obj} {cur : Array Value} {e : TypeId} {fr : Nat × Nat} (d : Array I64) (hb : W.heap[g]? = some (.cells cur e fr)) :
    (grow (putRow encI (Sort.ahead W n) g 0 d) os).heap[g]? = some (.cells (putCells encI 0 d cur) e fr) := by
  have hg : g < W.heap.size := (Array.getElem?_eq_some_iff.1 hb).1
  rw [heap_grow_old _ _ (by simpa using hg)]
  simp [putRow, mapBlock, Sort.ahead, Array.getElem?_modify, hb, onCells]

theorem take_put (cur : Array Value) (ts : List I64) (h : ts.length ≤ cur.size) : (putCells encI 0 ts.toArray cur).toList.take ts.length = ts.map encI := by
  apply List.ext_getElem?
  intro j
  by_cases hj : j < ts.length
  · rw [List.getElem?_take_of_lt hj, Array.getElem?_toList]
    simp [putCells, hj, show j < cur.size by omega]
  · rw [List.getElem?_take_eq_none (by omega), List.getElem?_eq_none (by simp; omega)]

theorem owns_put {W : World} {base g cap n : Nat} {os : Array Obj} {cur : Array Value} {ss ts : List I64} (hl : ts.length = ss.length) (hbase : base ≤ g) (hb : W.heap[g]? = some (.cells cur 3 (0, 0)))
    (h1 : ss.length ≤ cap) (h2 : cap ≤ maxLen) (h3 : cur.size = cap * 1) :
    (grow (putRow encI (Sort.ahead W n) g 0 ts.toArray) os).ownsRow base 3 1 (.slice (some ⟨g, 0, none⟩) ss.length cap) ss.length (ts.map encI) :=
  ⟨by simp [hl], .inr ⟨g, cap, _, rfl, hbase, heap_put _ hb, h1, h2, by simp [putCells, h3], by rw [Nat.mul_one, ← hl]; exact take_put cur ts (by omega)⟩⟩

theorem map_ne_row {W : World} {bg n : Nat} {D : DU} (h : W.ownsMap Try.prog 3 (plainElem Try.prog 3) bg n D) {g : Nat} {cur : Array Value} {e : TypeId} {fr : Nat × Nat} (hb : W.heap[g]? = some (.cells cur e fr)) : bg ≠ g := by
  rintro rfl
  obtain ⟨es, clock, hh, _⟩ := h
  rw [hh] at hb; cases hb

theorem box_ne_row {W : World} {B t : Nat} {u : Value} (h : Boxed W B t u) (ht : t ≠ 3) {g : Nat} {cur : Array Value} {fr : Nat × Nat} (hb : W.heap[g]? = some (.cells cur 3 fr)) : B ≠ g := by
  rintro rfl
  have := (show W.heap[B]? = _ from h).symm.trans hb
  simp at this
  exact ht this.2.1

/-- The list behind the sort: nothing later was got first. -/
def SortedBy (f : Int → Option Nat) (ss : List I64) : Prop := ss.Pairwise fun a b => ¬ valOf f b.1 < valOf f a.1

theorem sortedBy_of {f : Int → Option Nat} {d : Array I64} (h : SortedIn (ltG f) 0 d.size d) : SortedBy f d.toList := by
  unfold SortedBy
  rw [List.pairwise_iff_getElem]
  intro i j hi hj hij
  have hi' : i < d.size := by simpa using hi
  have hj' : j < d.size := by simpa using hj
  have := h i j (Nat.zero_le _) hij hj'
  rw [getElem!_pos d i hi', getElem!_pos d j hj'] at this
  simpa [ltG] using this

theorem sortedBy_short (f : Int → Option Nat) {ss : List I64} (h : ss.length ≤ 1) : SortedBy f ss := by
  match ss, h with
  | [], _ => exact List.Pairwise.nil
  | [x], _ => exact List.pairwise_singleton _ _
  | _ :: _ :: _, h => simp at h

set_option maxRecDepth 100000 in
set_option maxHeartbeats 2000000 in
theorem sort_any (Bg Bl bg n base : Nat) (D : DU) (f : Int → Option Nat) (v : Value) (ss : List I64) (W : World) (hlen : ss.length ≤ 1000) (hBg : Boxed W Bg 63 (.map (some bg))) (hBl : Boxed W Bl 33 v)
    (hown : W.ownsMap Try.prog 3 (plainElem Try.prog 3) bg n D) (hT : Tells D f) (hrow : W.ownsRow base 3 1 v ss.length (ss.map encI)) :
    Calls Try.prog 28 #[.iface 33 v, .func (.func 29) #[] #[.pointer (some ⟨Bg, 0, none⟩), .pointer (some ⟨Bl, 0, none⟩)]] W fun e W' =>
      e = .returned (.tuple #[]) ∧ ∃ ts : List I64, ts.Perm ss ∧ SortedBy f ts ∧ W'.ownsRow base 3 1 v ss.length (ts.map encI) ∧ W.grownBy W' v.ownBlock := by
  by_cases h2 : 2 ≤ ss.length
  · rcases hrow.2 with ⟨_, h0⟩ | ⟨g, cap, cur, rfl, hbase, hb, h3, h4, h5, h6⟩
    · omega
    have hH : Holds encI W g 0 ss.toArray := holds_own hb h6
    have hblk : g < W.heap.size := (Array.getElem?_eq_some_iff.1 hb).1
    have hsz : ss.toArray.size = ss.length := by simp
    have hless : LessReads Try.prog 29 #[.pointer (some ⟨Bg, 0, none⟩), .pointer (some ⟨Bl, 0, none⟩)] encI (ltG f) g 0 ss.toArray.size W := by
      intro m os dk hs i j hi hj
      have hgr : W.grownBy (sortWorld encI W g 0 m dk os) (some g) := sorted_grown W g m os dk
      refine less_any Bg Bl bg g cap ss.length n D f _ (fun t => dk[t]!) ?_ ?_ (hown.kept hgr (fun e => map_ne_row hown hb (by cases e; rfl))) hT (fun t ht => ?_) i j (by omega) (by omega)
      · exact (hBg.kept hgr (fun e => box_ne_row hBg (by decide) hb (by cases e; rfl))).cell
      · exact (hBl.kept hgr (fun e => box_ne_row hBl (by decide) hb (by cases e; rfl))).cell
      · unfold sortWorld
        rw [cell?_grow _ _ _ (by simpa using hblk)]
        have := cell?_putRow encI (Sort.ahead W m) g 0 ss.toArray dk (holds_ahead _ _ _ _ _ _ hH) hs t (by omega)
        rwa [Nat.zero_add] at this
    have hS := Any.sort_Slice_sorted Try.sa6 33 3 siT siE (by kernel_rfl) (by kernel_rfl) (by kernel_rfl) (by kernel_rfl) 2 (fun _ => by kernel_rfl) (by kernel_rfl) (fun _ => by kernel_rfl) encI (fun _ => rfl) (ltG f) (swo_ltG f) 29 _
      (enters_of Try.func29 (by kernel_rfl) rfl) g 0 cap ss.toArray (by omega) (by omega) 66 (by rw [siK _ (by omega)]; kernel_rfl) true
      (fun args W => run_callFunc_extern Try.func66 (by kernel_rfl) (by kernel_rfl) (by kernel_rfl) (e := Extern.ReflectliteSwapper.swap true) (by kernel_rfl) args W) _ hless hH hblk
    change Calls Try.prog 28 _ _ _ at hS
    rw [hsz] at hS
    refine hS.mono ?_
    rintro e W' ⟨rfl, d', k, os, hp, hso, rfl⟩
    have hd : d'.size = ss.length := hp.1.trans hsz
    refine ⟨rfl, d'.toList, ?_, ?_, ?_, ?_⟩
    · have := hp.2.2
      rw [Array.extract_eq_self_of_le (by omega), Array.extract_eq_self_of_le (by omega)] at this
      simpa using this
    · exact sortedBy_of (by rw [hd]; exact hso)
    · have := owns_put (n := k) (os := os) (ss := ss) (ts := d'.toList) (by simpa using hd) hbase hb h3 h4 h5
      simpa using this
    · exact sorted_grown W g k os d'
  · have hv : ∃ p c, v = .slice p ss.length c := by
      rcases hrow.2 with ⟨rfl, h0⟩ | ⟨g, cap, cur, rfl, _⟩
      · exact ⟨none, 0, by rw [h0]⟩
      · exact ⟨_, _, rfl⟩
    obtain ⟨p, c, rfl⟩ := hv
    have hl1 : ss.length ≤ 1 := by omega
    have hS := Any.sort_Slice_tiny Try.sa6 33 3 siT siE (by kernel_rfl) (by kernel_rfl) (by kernel_rfl) (by kernel_rfl) 2 (fun _ => by kernel_rfl) p ss.length c hl1 (62 + ss.length) (by
      rw [siK1 _ hl1]
      generalize ss.length = k at hl1
      rcases Nat.eq_zero_or_pos k with h | h
      · subst h; kernel_rfl
      · obtain rfl : k = 1 := by omega
        kernel_rfl) (.func 29) #[] #[.pointer (some ⟨Bg, 0, none⟩), .pointer (some ⟨Bl, 0, none⟩)] W
    change Calls Try.prog 28 _ _ _ at hS
    refine hS.mono ?_
    rintro e W' ⟨rfl, os, rfl⟩
    have hgr : W.grownBy (grow W os) none := ⟨rfl, rfl, rfl, by simp, fun k hk _ => heap_grow_old _ _ hk⟩
    refine ⟨rfl, ss, List.Perm.refl _, sortedBy_short f hl1, hrow.kept hgr ?_, hgr.but _⟩
    rcases hrow.2 with ⟨h0, _⟩ | ⟨g, cap, cur, h0, _⟩
    · exact .inl (by rw [h0]; rfl)
    · exact .inr (by rw [h0]; simp [Value.ownBlock])

end Go.Proofs.Ytgincippgaecfaa.Au
