/-
  A guard's names and mechanisms; streams; a client's guard. No condition.
-/
import Derived.Test.YtannnhopgdlapaaGreatDoorG1
namespace Go.Proofs.YtannnhopgdlapaaGreatDoor.Uc
open Go Go.RowKit Go.Proofs.Nu

/-- No zero byte from a place on. -/
def nzFrom (s : ByteArray) (k : Nat) : Bool := (s.data.toList.drop k).all fun x => decide (x.toNat ≠ 0)
theorem nz_end {s : ByteArray} {k : Nat} (h : s.size ≤ k) : nzFrom s k = true := by
  unfold nzFrom
  rw [List.drop_eq_nil_of_le (by rw [← Lib.size_eq]; exact h)]; rfl
theorem nz_step {s : ByteArray} {k : Nat} (h : k < s.size) : nzFrom s k = (decide (s[k].toNat ≠ 0) && nzFrom s (k + 1)) := by
  unfold nzFrom
  have : s.data.toList.drop k = s[k] :: s.data.toList.drop (k + 1) := by
    rw [List.drop_eq_getElem_cons (by rw [← Lib.size_eq]; exact h)]; rfl
  rw [this, List.all_cons]
theorem may_nz {s : ByteArray} {lo : Int} (h1 : lo ≤ s.size) (h2 : s.size ≤ 64) : mayT s lo = nzFrom s 0 := by
  unfold mayT nzFrom
  simp [h1, h2]
theorem may_not {s : ByteArray} {lo : Int} (h : ¬ (lo ≤ s.size ∧ s.size ≤ 64)) : mayT s lo = false := by
  unfold mayT
  by_cases h1 : lo ≤ s.size
  · have h2 : ¬ s.size ≤ 64 := fun h2 => h ⟨h1, h2⟩
    simp [h2]
  · simp [h1]

set_option maxRecDepth 100000 in
set_option maxHeartbeats 1000000 in
theorem rname_any (s : ByteArray) (lo : Int) (w : World) :
    Calls Tryz.prog 50 #[.string s, .int .i64 lo] w fun r w' => r = .returned (.bool (mayT s lo)) ∧ w' = w := by
  by_cases h : lo ≤ s.size ∧ s.size ≤ 64
  · obtain ⟨h1, h2⟩ := h
    have HR := Lib.hid (may_nz h1 h2)
    obtain ⟨R, hR⟩ : ∃ R, mayT s lo = R := ⟨_, rfl⟩
    rw [hR] at HR ⊢
    clear hR
    go_enter Tryz.func50, Tryz.ntmps50
    go_wp2
    go_loop [5] (fun i => ∃ (k : Nat), i = .int .i64 k ∧ k ≤ s.size ∧ Hid (nzFrom s k = R)) (fun i => s.size - (intOf i).toNat)
    case atStart => exact ⟨0, rfl, Nat.zero_le _, HR.out.symm⟩
    case round =>
      obtain ⟨k, rfl, hk, HQ⟩ := hrel
      by_cases hlt : k < s.size
      · have hst := nz_step hlt
        by_cases hc : s[k].toNat = 0
        · have HE : Hid (false = R) := by show false = R; rw [← HQ.out, hst]; simp [hc]
          have hci : ((s[k].toNat : Int) == 0) = true := by simp [hc]
          clear hc hst
          go_wp2
          go_ret
          exact ⟨ret_bool HE.out, rfl⟩
        · have HE : Hid (nzFrom s (k + 1) = R) := by show _ = R; rw [← HQ.out, hst]; simp [hc]
          have hci : ((s[k].toNat : Int) == 0) = false := by simp; omega
          clear hc hst
          go_wp2
          go_round
          case rel => exact ⟨k + 1, by go_num, by omega, HE.out⟩
          case measure => simp [intOf]; omega
      · obtain rfl : k = s.size := by omega
        go_wp2
        go_ret
        exact ⟨ret_bool (by rw [← HQ.out, nz_end (Nat.le_refl _)]), rfl⟩
  · have HR := Lib.hid (may_not h)
    rw [HR.out]
    have h' : (s.size : Int) < lo ∨ (64 < (s.size : Int) ∧ lo ≤ s.size) := by omega
    clear h
    rcases h' with h | ⟨h, h2⟩
    all_goals
      go_enter Tryz.func50, Tryz.ntmps50
      go_wp2
      go_ret
      exact ⟨rfl, rfl⟩

set_option maxRecDepth 100000 in
theorem known_any (s : ByteArray) (w : World) :
    Calls Tryz.prog 51 #[.string s] w fun r w' => r = .returned (.bool (knownT s)) ∧ w' = w := by
  have hO : nameO.toList = [111, 112, 101, 110] := by rw [Lib.toList_data]; rfl
  have hP : nameP.toList = [112, 108, 97, 105, 110] := by rw [Lib.toList_data]; rfl
  have hQ : nameQ.toList = [112, 114, 111, 111, 102] := by rw [Lib.toList_data]; rfl
  have HR : Hid (((s.toList == [111, 112, 101, 110]) || ((s.toList == [112, 108, 97, 105, 110]) || (s.toList == [112, 114, 111, 111, 102]))) = knownT s) := by show _ = _; unfold knownT; rw [hO, hP, hQ]
  clear hO hP hQ
  go_enter Tryz.func51, Tryz.ntmps51
  go_wp2
  all_goals
    go_ret
    refine ⟨ret_bool ?_, rfl⟩
    first | (rw [← HR.out]; done) | (rw [← HR.out]; simp_all; done) | (have h := HR.out; simp_all; done) | (have h := HR.out; clear HR; rw [← h, Bool.or_assoc])
/-- A mechanism, or none. -/
def MechAns (s : ByteArray) (w : World) (r : Ending) (w' : World) : Prop := w' = w ∧ ((knownT s = true ∧ ∃ t, r = .returned (.iface t (.agg #[]))) ∨ (knownT s = false ∧ r = .returned .nilIface))
set_option maxRecDepth 100000 in
theorem mech_any (s : ByteArray) (w : World) : Calls Tryz.prog 48 #[.string s] w (MechAns s w) := by
  have hO : nameO.toList = [111, 112, 101, 110] := by rw [Lib.toList_data]; rfl
  have hP : nameP.toList = [112, 108, 97, 105, 110] := by rw [Lib.toList_data]; rfl
  have hQ : nameQ.toList = [112, 114, 111, 111, 102] := by rw [Lib.toList_data]; rfl
  have HR : Hid (knownT s = ((s.toList == [111, 112, 101, 110]) || ((s.toList == [112, 108, 97, 105, 110]) || (s.toList == [112, 114, 111, 111, 102])))) := by show _ = _; unfold knownT; rw [hO, hP, hQ]
  clear hO hP hQ
  go_enter Tryz.func48, Tryz.ntmps48
  go_wp2
  all_goals go_ret
  all_goals have HR' := HR.out
  all_goals first
    | exact ⟨rfl, .inl ⟨by simp_all, 188, rfl⟩⟩
    | exact ⟨rfl, .inl ⟨by simp_all, 189, rfl⟩⟩
    | exact ⟨rfl, .inl ⟨by simp_all, 190, rfl⟩⟩
    | exact ⟨rfl, .inr ⟨by simp_all, rfl⟩⟩
end Go.Proofs.YtannnhopgdlapaaGreatDoor.Uc
