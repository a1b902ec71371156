/-
  octet.Utf8 at every string: the first wrong byte's place. Condition: the tables of unicode/utf8 lie as the program's text lays them.
-/
import Derived.Test.YtannnhopgdlapaaGreatDoorShU
import Derived.Test.YtannnhopgdlapaaGreatDoorNuUtf
import Derived.WalkKit
import Derived.WalkSpells
import Derived.WalkLawsBesides
import Derived.Lib.Hide
import Derived.Deep.Light
namespace Go.Proofs.YtannnhopgdlapaaGreatDoor.Uc
open Go Go.RowKit Go.Proofs.Nu

/-- The tables of unicode/utf8. -/
def Tabs (w : World) : Prop := Lib.Utf8Tabs 0 1 w
theorem lt_of_cell {w : World} {b o : Nat} {v : Value} (h : w.cell? ⟨b, o, none⟩ = some v) : b < w.heap.size := by
  rcases Nat.lt_or_ge b w.heap.size with h' | h'
  · exact h'
  · exfalso
    unfold World.cell? at h
    rw [show w.heap[b]? = none from Array.getElem?_eq_none h'] at h
    cases h
theorem Tabs.below {w w' : World} (h : Tabs w) (hb : Below w.heap.size w w') : Tabs w' :=
  ⟨fun c hc => (hb.cell (p := ⟨_, c, none⟩) (lt_of_cell (h.1 c hc))).trans (h.1 c hc),
   fun i hi => ⟨(hb.cell (p := ⟨_, 2 * i, none⟩) (lt_of_cell (h.2 i hi).1)).trans (h.2 i hi).1, (hb.cell (p := ⟨_, 2 * i + 1, none⟩) (lt_of_cell (h.2 i hi).2)).trans (h.2 i hi).2⟩⟩

theorem decode_any (s : ByteArray) (k : Nat) (w : World) (hT : Tabs w) (hk : k < s.size) :
    Calls Tryz.prog 82 #[.string (s.extract k s.size)] w fun e w' => e = .returned (.tuple #[.int .i32 (Utf8.decode s k).1, .int .i64 (Utf8.decode s k).2]) ∧ Below w.heap.size w w' := by
  have h := Any.utf8_DecodeRuneInString Tryz.dec197 (s.extract k s.size) w hT
  have e : Lib.decodeGo (s.extract k s.size) = Utf8.decode s k := by
    unfold Lib.decodeGo
    have hz : (s.extract k s.size).size ≠ 0 := by simp; omega
    rw [if_neg hz, decode_extract s k (by omega)]
  rw [e] at h
  exact h

theorem ret_int {k : IntKind} {a b : Int} (h : a = b) : Ending.returned (.int k a) = .returned (.int k b) := by rw [h]
set_option maxRecDepth 100000 in
set_option maxHeartbeats 1000000 in
theorem utf8_any (s : ByteArray) (w : World) (hT : Tabs w) (hs : s.size ≤ 9223372036854775807) :
    Calls Tryz.prog 42 #[.string s] w fun e w' => e = .returned (.int .i64 (utf s)) ∧ Below w.heap.size w w' := by
  have HT := Lib.hid hT; clear hT
  go_enter Tryz.func42, Tryz.ntmps42
  go_wp2
  go_loopw [3] (fun i wr => ∃ (k : Nat), i = .int .i64 k ∧ k ≤ s.size ∧ Hid (utfFrom s k = utf s) ∧ Below w.heap.size w wr) (fun i _ => s.size - (intOf i).toNat)
  case atStart => exact ⟨0, rfl, Nat.zero_le _, rfl, Below.refl _ _⟩
  case round =>
    obtain ⟨k, rfl, hk, HQ, hb⟩ := hrel
    have HB := Lib.hid hb
    by_cases hlt : k < s.size
    · obtain ⟨hd1, hd2⟩ := decode_ch s k hlt
      have hD := decode_any s k wr (HT.out.below hb) hlt
      have hfit := ch_fit (s := s) (k := k)
      obtain ⟨c, hc⟩ : ∃ c, ch s k = c := ⟨_, rfl⟩
      rw [hc] at hd1 hd2 hfit
      obtain ⟨r, n, hrn⟩ : ∃ r n, Utf8.decode s k = (r, n) := ⟨_, _, rfl⟩
      rw [hrn] at hd1 hd2 hD
      simp only at hd2 hD
      by_cases hz : c = 0
      · have e := hd1 hz
        simp only [Prod.mk.injEq] at e
        obtain ⟨rfl, rfl⟩ := e
        have HE : Hid (utf s = k) := HQ.out.symm.trans (utf_bad hlt (by omega))
        clear hd1 hd2 hfit hc hrn hb
        go_wp2_with (go_at_call 82; refine hD.mono ?_; clear hD; rintro e w2 ⟨rfl, hb2⟩)
        go_ret
        exact ⟨ret_int HE.out.symm, HB.out.trans (hb2.mono HB.out.size)⟩
      · obtain ⟨e, hne⟩ := hd2 hz
        subst e
        have hn1 : 1 ≤ n := by omega
        have hfit := hfit hz
        have HN := Lib.hid hne
        have HE : Hid (utfFrom s (k + n) = utf s) := by
          have := utf_step hlt (by rw [hc]; exact hz)
          rw [hc] at this
          exact this.symm.trans HQ.out
        clear hd1 hd2 hc hrn hb hne hz
        go_wp2_with (go_at_call 82; refine hD.mono ?_; clear hD; rintro e w2 ⟨rfl, hb2⟩)
        · exfalso
          rename_i h1 h2
          exact HN.out ⟨by omega, by simp at h2; omega⟩
        all_goals
          go_roundw
          case rel => exact ⟨k + n, by go_num, by omega, HE.out, HB.out.trans (hb2.mono HB.out.size)⟩
          case measure => simp [intOf]; omega
    · obtain rfl : k = s.size := by omega
      go_wp2
      go_ret
      exact ⟨ret_int (by rw [← HQ.out, utf_end hlt]), hb⟩
end Go.Proofs.YtannnhopgdlapaaGreatDoor.Uc
