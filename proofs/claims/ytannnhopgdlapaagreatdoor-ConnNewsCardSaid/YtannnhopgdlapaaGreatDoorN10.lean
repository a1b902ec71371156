/-
  A fresh connection's sessions: none under any number. No condition but that it is fresh.
-/
import Derived.Test.YtannnhopgdlapaaGreatDoorN9
import Derived.Maps.Own
namespace Go.Proofs.YtannnhopgdlapaaGreatDoor.Uc
open Go Go.RowKit Go.Proofs.Nu

set_option maxRecDepth 100000 in
theorem run_look (w : World) (mb : Nat) (k : Int) (h : w.heap[mb]? = some (.map #[] 0)) : (Instr.lookup 69 (.map (some mb)) (.int .i64 k) false).run Tryz.prog w = .ok (.pointer none) w := by
  have hz := Tryz.zeroValue92 w
  have hc : (Instr.checkKey true 10000 3 (.int .i64 k)).run Tryz.prog w = .ok () w := MapKept.run_checkKey (P := Tryz.prog) (w := w) Tryz.underlying3 (by first | trivial | constructor | exact ⟨_, rfl⟩ | exact .int _ _) true 9999
  simp [Instr.lookup, MapKept.run_getObj_map h, Result.andThen, run_underlying Tryz.underlying3, Tryz.underlying69, hc, Instr.findKey, Instr.findNow, hz]

set_option maxRecDepth 100000 in
theorem talk_any {xb mb : Nat} (k : Int) (w : World) (h : FreshAt w xb mb) : Calls Tryz.prog 56 #[.pointer (some ⟨xb, 0, none⟩), .int .i64 k] w fun r w' => r = .returned (.tuple #[.pointer none, .int .i64 152]) ∧ w' = w := by
  have hl := run_look w mb k h.none_
  obtain ⟨c159, _⟩ := h.talks
  clear h
  go_enter Tryz.func56, Tryz.ntmps56
  go_wp2
  go_ret2
  exact ⟨rfl, rfl⟩
set_option maxRecDepth 100000 in
theorem clive_any {xb mb : Nat} (k : Int) (w : World) (h : FreshAt w xb mb) : Calls Tryz.prog 28 #[.pointer (some ⟨xb, 0, none⟩), .int .i64 k] w fun r w' => r = .returned (.slice none 0 0) ∧ w' = w := by
  have HT := Lib.hid (talk_any k w h)
  clear h
  go_enter Tryz.func28, Tryz.ntmps28
  go_wp2_with (go_at_call 56; refine HT.out.mono ?_; rintro r w2 ⟨rfl, rfl⟩)
  go_ret
  exact ⟨rfl, rfl⟩
set_option maxRecDepth 100000 in
theorem links_any {xb mb : Nat} (k : Int) (w : World) (h : FreshAt w xb mb) : Calls Tryz.prog 11 #[.pointer (some ⟨xb, 0, none⟩), .int .i64 k] w fun r w' => r = .returned (.slice none 0 0) ∧ w' = w := by
  have HT := Lib.hid (clive_any k w h)
  clear h
  go_enter Tryz.func11, Tryz.ntmps11
  go_wp2_with (go_at_call 28; refine HT.out.mono ?_; rintro r w2 ⟨rfl, rfl⟩)
  go_loop [5, 12] (fun v i => v = .slice none 0 0 ∧ i = .int .i64 0) (fun _ _ => 0)
  case atStart => exact ⟨rfl, rfl⟩
  case round =>
    obtain ⟨rfl, rfl⟩ := hrel
    go_wp2
    go_ret
    exact ⟨rfl, rfl⟩
set_option maxRecDepth 100000 in
theorem handles_any {xb mb : Nat} (k : Int) (w : World) (h : FreshAt w xb mb) : Calls Tryz.prog 12 #[.pointer (some ⟨xb, 0, none⟩), .int .i64 k] w fun r w' => r = .returned (.slice none 0 0) ∧ w' = w := by
  have HT := Lib.hid (clive_any k w h)
  clear h
  go_enter Tryz.func12, Tryz.ntmps12
  go_wp2_with (go_at_call 28; refine HT.out.mono ?_; rintro r w2 ⟨rfl, rfl⟩)
  go_loop [5, 12] (fun v i => v = .slice none 0 0 ∧ i = .int .i64 0) (fun _ _ => 0)
  case atStart => exact ⟨rfl, rfl⟩
  case round =>
    obtain ⟨rfl, rfl⟩ := hrel
    go_wp2
    go_ret
    exact ⟨rfl, rfl⟩
end Go.Proofs.YtannnhopgdlapaaGreatDoor.Uc
