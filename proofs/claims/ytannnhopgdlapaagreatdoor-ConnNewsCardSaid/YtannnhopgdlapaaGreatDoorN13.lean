/-
  Channels of a fresh connection: none. No condition but that it is fresh.
-/
import Derived.Test.YtannnhopgdlapaaGreatDoorN12
import Derived.Test.YtannnhopgdlapaaGreatDoorShM
namespace Go.Proofs.YtannnhopgdlapaaGreatDoor.Uc
open Go Go.RowKit Go.Maps Go.Sort Go.Shelf Go.Proofs.Nu

theorem own_empty {w : World} {mb : Nat} (h : w.heap[mb]? = some (.map #[] 0)) : World.ownsMap (H := Unit) w Tryz.prog 3 (fun _ => none) mb 0 (.map []) :=
  ⟨#[], 0, h, ⟨by simp, ⟨fun x hx => by simp at hx, by simp, by simp⟩, fun x hx => by simp at hx⟩, Nat.le_refl _, rfl⟩

theorem keys_any (mb : Nat) (w : World) : Calls Tryz.prog 27 #[.map (some mb)] w fun e w' => e = .returned (.func (.func 55) #[] #[.pointer (some ⟨w.heap.size, 0, none⟩)]) ∧ w' = w.alloc (.cells #[.map (some mb)] 69) :=
  (callsIn_wide (n := 5)).1 (AnyZI.keys_in Tryz.keysA Fence.wide 5 trivial rfl (some mb) w)

set_option maxRecDepth 100000 in
set_option maxHeartbeats 1000000 in
theorem sorted_empty {bx mb : Nat} (W : World) (hc : W.cell? ⟨bx, 0, none⟩ = some (.map (some mb))) (hm : W.heap[mb]? = some (.map #[] 0)) (hbx : bx < W.heap.size) :
    Calls Tryz.prog 26 #[.func (.func 55) #[] #[.pointer (some ⟨bx, 0, none⟩)]] W fun e W' => e = .returned (.slice none 0 0) ∧ Below W.heap.size W W' := by
  refine (callsIn_wide (n := 6)).1 ?_
  have hseq : SeqGives Fence.wide 3 Tryz.prog 55 #[.pointer (some ⟨bx, 0, none⟩)] encZ (fun ss => ss.Perm (intKeys (.map [] : DataW Unit))) (Maps.size (.map [] : DataW Unit)) W :=
    AnyZI.keys_gives (ρ := Tryz.keysA_ren) { Tryz.keysA with } Fence.wide _ trivial rfl (by omega) bx mb 0 _ W hbx hc (own_empty hm)
  have cC := AnyZI.collect_in Tryz.collA Fence.wide 5 trivial trivial rfl (by omega) 55 #[.pointer (some ⟨bx, 0, none⟩)] trivial (enters_of Tryz.func55 (by kernel_rfl) rfl) _ _ (by simp [Maps.size]) (by simp [Maps.size]) _ hseq
  change CallsIn _ _ Tryz.prog 53 _ _ _ at cC
  have g1 : Fence.wide.fn 53 := trivial
  have g2 : Fence.wide.fn 54 := trivial
  refine callsIn_of_wp Tryz.func26 rfl trivial ?_ rfl
  simp only [Tryz.ntmps26, List.size_toArray, List.length_cons, List.length_nil, Nat.reduceAdd, Nat.reduceSub, Array.replicate_succ, Array.replicate_zero, List.push_toArray, List.append_toArray, List.nil_append, List.cons_append]
  gi_wp2_with (first
    | (gi_at_call 53; refine cC.mono ?_; rintro e w1 ⟨v, ss, rfl, hS, hrow, hnil, hb⟩
       obtain rfl : v = .slice none 0 0 := hnil.2 (by simpa [intKeys] using hS)
       clear hnil hS hrow
       have hs := AnyM.slices_Sort_int_none Tryz.sortZ none 0 w1
       change Calls Tryz.prog 54 _ _ _ at hs)
    | (gi_at_call 54; refine (callsIn_wide.2 hs).mono ?_; rintro e w2 ⟨rfl, rfl⟩)
    | gi_in)
  go_ret
  exact ⟨rfl, hb⟩

set_option maxRecDepth 100000 in
theorem channels_any {xb mb : Nat} (w : World) (h : FreshAt w xb mb) : Calls Tryz.prog 10 #[.pointer (some ⟨xb, 0, none⟩)] w fun r w' => r = .returned (.slice none 0 0) ∧ Below w.heap.size w w' := by
  obtain ⟨c159, _⟩ := h.talks
  have HK := Lib.hid (keys_any mb w)
  have HS := Lib.hid (sorted_empty (bx := w.heap.size) (mb := mb) (w.alloc (.cells #[.map (some mb)] 69)) (by simp) ((Below.heap_alloc _ _ _ h.lm).trans h.none_) (by simp))
  clear h
  go_enter Tryz.func10, Tryz.ntmps10
  go_wp2_with (first
    | (go_at_call 27; refine HK.out.mono ?_; rintro r w2 ⟨rfl, rfl⟩)
    | (go_at_call 26; refine HS.out.mono ?_; rintro r w3 ⟨rfl, hb3⟩))
  go_loop [3, 13] (fun v i => v = .slice none 0 0 ∧ i = .int .i64 0) (fun _ _ => 0)
  case atStart => exact ⟨rfl, rfl⟩
  case round =>
    obtain ⟨rfl, rfl⟩ := hrel
    go_wp2
    go_ret
    exact ⟨rfl, ((Below.refl _ _).alloc (Nat.le_refl _) _).trans (hb3.mono (by simp))⟩
end Go.Proofs.YtannnhopgdlapaaGreatDoor.Uc
