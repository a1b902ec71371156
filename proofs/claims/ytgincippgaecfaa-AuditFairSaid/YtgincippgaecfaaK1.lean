/-
  keys: a map's keys, rising, in memory of the call's own. No condition but the map's size.
-/
import Derived.Test.YtgincippgaecfaaShelf2
import Derived.Test.YtgincippgaecfaaL3
import Derived.Test.YtgincippgaecfaaM
import Derived.Test.YtgincippgaecfaaB1
import Derived.Sort.OwnSortedInts
namespace Go.Proofs.Ytgincippgaecfaa.Au
open Go Go.RowKit Go.Maps Go.Sort Go.Shelf

theorem law3k : Keyed Try.prog 3 := int_keyed Try.underlying3
abbrev leI (x y : Int) : Bool := decide (x ≤ y)

set_option maxRecDepth 100000 in
set_option maxHeartbeats 1000000 in
theorem sort_ints (base : Nat) (v : Value) (ss : List Int) (W : World) (h : Ints base W v ss) (hlen : ss.length ≤ 4611686018427387903) :
    Calls Try.prog 46 #[v] W fun e W' => e = .returned (.tuple #[]) ∧ Ints base W' v (ss.mergeSort leI) ∧ Below base W W' := by
  rcases h.2 with ⟨rfl, h0⟩ | ⟨g, cap, cur, rfl, hb, hh, h1, h2, h3, h4⟩
  · obtain rfl : ss = [] := List.length_eq_zero_iff.1 h0
    have hS := AnyM.slices_Sort_int_none Try.sortZ none 0 W
    change Calls Try.prog 61 _ _ _ at hS
    go_enter Try.func46, Try.ntmps46
    go_wp2_with (go_at_call 61; refine hS.mono ?_; rintro e w1 ⟨rfl, rfl⟩)
    go_end0
    exact ⟨rfl, by simpa using h, Below.refl _ _⟩
  · have hH : Holds (Value.int .i64) W g 0 ss.toArray := holds_of_blockI hh (by simpa using h4)
    have hgl : g < W.heap.size := (Array.getElem?_eq_some_iff.1 hh).1
    have hS := AnyM.slices_Sort_int Try.sortZ g 0 cap ss W hH hgl (by omega)
    change Calls Try.prog 61 _ _ _ at hS
    clear h
    go_enter Try.func46, Try.ntmps46
    go_wp2_with (go_at_call 61; refine hS.mono ?_; rintro e w1 ⟨rfl, nn, os, rfl⟩)
    go_end0
    refine ⟨rfl, ?_, (Below.refl _ _).grown (grownBy_sortedI _) (by omega) (fun k e => by cases e; exact hb)⟩
    have := ownsRow_sortedI (n := nn) (os := os) (ss := ss) (ts := ss.mergeSort leI) (by simp) hb hh h1 h2 h3
    unfold Ints
    rw [List.length_mergeSort]
    exact this

theorem keys_nodup {w : World} {b n : Nat} {D : DU} (h : w.ownsMap Try.prog 3 (plainElem Try.prog 3) b n D) : (intKeys D).Nodup ∧ ∀ m, m ∈ intKeys D ↔ has D (.int .i64 m) = true := by
  obtain ⟨es, hD, hp, _⟩ := h.entries law3k
  obtain ⟨es', hD', hk⟩ := World.ownsMap.keysOf h
  rw [hD] at hD'
  cases hD'
  subst hD
  have hint : ∀ p ∈ es, ∃ x, p.1 = .int .i64 x := fun p hp => by
    obtain ⟨v, hv⟩ := hk p hp
    obtain ⟨x, _, hx, _⟩ := Maps.keyOf_int_inv Try.underlying3 hv
    exact ⟨x, hx⟩
  constructor
  · show (es.map fun p => Go.intOf p.1).Nodup
    refine List.pairwise_map.2 (hp.imp_of_mem fun {p q} hp' hq' hne e => hne ?_)
    obtain ⟨a, ha⟩ := hint p hp'
    obtain ⟨b, hb⟩ := hint q hq'
    rw [ha, hb] at e ⊢
    exact congrArg _ e
  · intro m
    rw [has_eq, List.any_eq_true]
    show m ∈ (es.map fun p => Go.intOf p.1) ↔ _
    rw [List.mem_map]
    constructor
    · rintro ⟨p, hp', rfl⟩
      obtain ⟨a, ha⟩ := hint p hp'
      exact ⟨p, hp', by rw [ha]; simp [Lit.sameKey, Go.intOf]⟩
    · rintro ⟨p, hp', hs⟩
      obtain ⟨a, ha⟩ := hint p hp'
      rw [ha] at hs
      exact ⟨p, hp', by rw [ha]; simpa [Lit.sameKey, Go.intOf] using hs⟩

theorem asc_sort {l : List Int} (h : l.Nodup) : Asc (l.mergeSort leI) := by
  have h1 : (l.mergeSort leI).Pairwise (fun a b => leI a b = true) := List.pairwise_mergeSort (fun a b c h1 h2 => by simp only [leI, decide_eq_true_eq] at *; omega) (fun a b => by simp only [leI, Bool.or_eq_true, decide_eq_true_eq]; omega) l
  have h2 : (l.mergeSort leI).Nodup := (List.mergeSort_perm l leI).nodup_iff.2 h
  exact (h1.and h2).imp fun {a b} ⟨x, y⟩ => by
    simp only [leI, decide_eq_true_eq] at x
    omega

set_option maxRecDepth 100000 in
set_option maxHeartbeats 1000000 in
theorem keys_any (b nn : Nat) (D : DU) (w : World) (hown : w.ownsMap Try.prog 3 (plainElem Try.prog 3) b nn D) (hmax : Maps.size D ≤ 1000) :
    Calls Try.prog 25 #[.map (some b)] w fun e w' => ∃ (v : Value) (l : List Int), e = .returned v ∧ Ints w.heap.size w' v l ∧ Asc l ∧ (∀ m, m ∈ l ↔ has D (.int .i64 m) = true) ∧ l.length = Maps.size D ∧ Below w.heap.size w w' := by
  refine (callsIn_wide (n := 6)).1 ?_
  have hbl := hown.lt
  obtain ⟨kn, km⟩ := keys_nodup hown
  have hseq : SeqGives Fence.wide 3 Try.prog 60 #[.pointer (some ⟨w.heap.size, 0, none⟩)] encZ (fun ss => ss.Perm (intKeys D)) (Maps.size D) (w.alloc (.cells #[.map (some b)] 63)) :=
    AnyZI.keys_gives (ρ := Try.keysA_ren) { Try.keysA with } Fence.wide _ trivial rfl (by omega) w.heap.size b nn D _ (by simp) (by simp) (hown.alloc _)
  have cK : ∀ mb W, CallsIn Fence.wide 5 Try.prog 45 #[.map mb] W fun e w' => e = .returned (.func (.func 60) #[] #[.pointer (some ⟨W.heap.size, 0, none⟩)]) ∧ w' = W.alloc (.cells #[.map mb] 63) := fun mb W => AnyZI.keys_in Try.keysA Fence.wide 5 trivial rfl mb W
  have cC := AnyZI.collect_in Try.collA Fence.wide 5 trivial trivial rfl (by omega) 60 #[.pointer (some ⟨w.heap.size, 0, none⟩)] trivial (enters_of Try.func60 (by kernel_rfl) rfl) _ _ (by unfold maxLen; omega) (by omega) _ hseq
  change CallsIn _ _ Try.prog 44 _ _ _ at cC
  have g45 : Fence.wide.fn 45 := trivial
  have g44 : Fence.wide.fn 44 := trivial
  have g46 : Fence.wide.fn 46 := trivial
  refine callsIn_of_wp Try.func25 rfl trivial ?_ rfl
  simp only [Try.ntmps25, List.size_toArray, List.length_cons, List.length_nil, Nat.reduceAdd, Nat.reduceSub, Array.replicate_succ, Array.replicate_zero, List.push_toArray, List.append_toArray, List.nil_append, List.cons_append]
  gi_wp2_with (first
    | (gi_at_call 45; refine (cK _ _).mono ?_; rintro e w' ⟨rfl, rfl⟩)
    | (gi_at_call 44; refine cC.mono ?_; rintro e w1 ⟨v, ss, rfl, hS, hrow, hnil, hb⟩
       have hrow' : Ints w.heap.size w1 v ss := Ints.base (base := (w.alloc (.cells #[.map (some b)] 63)).heap.size) hrow (by simp)
       have hB1 : Below w.heap.size w w1 := ((Below.refl _ w).alloc (Nat.le_refl _) _).trans (hb.mono (by simp))
       have hs := sort_ints w.heap.size v ss w1 hrow' (by have := hS.length_eq; have : (intKeys D).length = Maps.size D := by cases D <;> simp [intKeys, Maps.size]
                                                          omega))
    | (gi_at_call 46; refine (callsIn_wide.2 hs).mono ?_; rintro e w2 ⟨rfl, hi2, hB2⟩)
    | gi_in)
  go_ret
  have hp : (ss.mergeSort leI).Perm (intKeys D) := (List.mergeSort_perm ss leI).trans hS
  exact ⟨v, _, rfl, hi2, asc_sort (hS.nodup_iff.2 kn), fun m => by rw [hp.mem_iff, km], by rw [hp.length_eq]; cases D <;> simp [intKeys, Maps.size], hB1.trans hB2⟩

end Go.Proofs.Ytgincippgaecfaa.Au
