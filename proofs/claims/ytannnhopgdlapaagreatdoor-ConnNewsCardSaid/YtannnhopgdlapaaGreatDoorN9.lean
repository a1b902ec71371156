/-
  What a fresh connection answers: Up, Out, its sessions' links. No condition but that it is fresh.
-/
import Derived.Test.YtannnhopgdlapaaGreatDoorN8
namespace Go.Proofs.YtannnhopgdlapaaGreatDoor.Uc
open Go Go.RowKit Go.Proofs.Nu

theorem n16 : Tryz.zeroCells73[16]? = some (.slice none 0 0) := by kernel_rfl
theorem n20 : Tryz.zeroCells73[20]? = some (.bool false) := by kernel_rfl
theorem n23 : Tryz.zeroCells73[23]? = some (.bool false) := by kernel_rfl
theorem FreshAt.out_ {w : World} {xb mb : Nat} (h : FreshAt w xb mb) : FreshAt (w.setCell ⟨xb, 16, none⟩ (.slice none 0 0)) xb mb :=
  ⟨fun j v a b c d => by
    by_cases e : j = 16
    · subst e
      have : v = .slice none 0 0 := by rw [n16] at d; exact (Option.some.inj d).symm
      subst this
      exact ⟨World.cell?_setCell_same _ _ _ (h.zero 16 _ a b c n16).1, (World.frozen?_setCell ..).trans (h.zero 16 _ a b c n16).2⟩
    · exact (h.zero j v a b c d).set (by omega), h.talks.set (by omega), (Below.heap_setCell w ⟨xb, 16, none⟩ _ mb h.ne).trans h.none_, Nat.lt_of_lt_of_le h.lx (size_set _ _ _), h.ne⟩

set_option maxRecDepth 100000 in
theorem up_any {xb mb : Nat} (w : World) (h : FreshAt w xb mb) : Calls Tryz.prog 9 #[.pointer (some ⟨xb, 0, none⟩)] w fun r w' => r = .returned (.bool false) ∧ w' = w := by
  obtain ⟨c20, _⟩ := h.zero 20 _ (by omega) (by omega) (by omega) n20
  clear h
  go_enter Tryz.func9, Tryz.ntmps9
  go_wp2
  go_ret
  exact ⟨rfl, rfl⟩
set_option maxRecDepth 100000 in
theorem out_any {xb mb : Nat} (w : World) (h : FreshAt w xb mb) : Calls Tryz.prog 8 #[.pointer (some ⟨xb, 0, none⟩)] w fun r w' => r = .returned (.slice none 0 0) ∧ w' = w.setCell ⟨xb, 16, none⟩ (.slice none 0 0) := by
  obtain ⟨c16, f16⟩ := h.zero 16 _ (by omega) (by omega) (by omega) n16
  clear h
  go_enter Tryz.func8, Tryz.ntmps8
  go_wp2
  go_ret
  exact ⟨rfl, rfl⟩
end Go.Proofs.YtannnhopgdlapaaGreatDoor.Uc
