/-
  A server's guard: no two users of one name, each may be. No condition but that the users lie so.
-/
import Derived.Test.YtannnhopgdlapaaGreatDoorG3
namespace Go.Proofs.YtannnhopgdlapaaGreatDoor.Uc
open Go Go.RowKit Go.Proofs.Nu

theorem ret_i {a b : Int} (h : a = b) : Ending.returned (.int .i64 a) = .returned (.int .i64 b) := by rw [h]
/-- The first that is so; −1. -/
def findI {α : Type} (q : α → Bool) (l : List α) : Int := match l.findIdx? q with | some j => (j : Int) | none => -1
theorem findI_hit {α : Type} {q : α → Bool} {l : List α} {j : Nat} {t : α} (ht : l[j]? = some t) (hk : q t = true) (hlo : ∀ i u, i < j → l[i]? = some u → q u = false) : findI q l = j := by
  unfold findI
  have : l.findIdx? q = some j := by
    rw [List.findIdx?_eq_some_iff_getElem]
    obtain ⟨hj, hg⟩ := List.getElem?_eq_some_iff.1 ht
    refine ⟨hj, by rw [hg]; exact hk, fun i hi => ?_⟩
    have := hlo i l[i] hi (List.getElem?_eq_getElem (by omega))
    simpa using this
  rw [this]
theorem findI_none {α : Type} {q : α → Bool} {l : List α} (hlo : ∀ i u, i < l.length → l[i]? = some u → q u = false) : findI q l = -1 := by
  unfold findI
  have : l.findIdx? q = none := by
    rw [List.findIdx?_eq_none_iff]
    intro x hx
    obtain ⟨i, hi, rfl⟩ := List.getElem_of_mem hx
    have := hlo i l[i] hi (List.getElem?_eq_getElem hi)
    simpa using this
  rw [this]
theorem findI_any {α : Type} (q : α → Bool) (l : List α) : decide (0 ≤ findI q l) = l.any q := by
  unfold findI
  cases hf : l.findIdx? q with
  | none =>
    rw [List.findIdx?_eq_none_iff] at hf
    symm
    simp only [show ¬ ((0 : Int) ≤ -1) by decide, decide_false]
    rw [List.any_eq_false]
    intro x hx
    have := hf x hx
    simp [this]
  | some j =>
    obtain ⟨hj, hg, _⟩ := List.findIdx?_eq_some_iff_getElem.1 hf
    symm
    simp only [show ((0 : Int) ≤ (j : Int)) by omega, decide_true]
    exact List.any_eq_true.2 ⟨l[j], List.getElem_mem hj, hg⟩

/-- Users in memory. -/
def UAt (B : Nat) (w : World) (p : Option Addr) (us : List Usr) : Prop := us = [] ∨ ∃ b off, p = some ⟨b, off, none⟩ ∧ b < B ∧ ∀ i u, us[i]? = some u → w.cell? ⟨b, off + i * 2, none⟩ = some (.string u.1) ∧ w.cell? ⟨b, off + i * 2 + 1, none⟩ = some (.string u.2)
theorem UAt.below {B : Nat} {w w' : World} {p : Option Addr} {us : List Usr} (h : UAt B w p us) (hb : Below B w w') : UAt B w' p us := by
  rcases h with h | ⟨b, off, h1, h2, h3⟩
  · exact .inl h
  · exact .inr ⟨b, off, h1, h2, fun i u hu => ⟨(hb.cell (p := ⟨b, off + i * 2, none⟩) h2).trans (h3 i u hu).1, (hb.cell (p := ⟨b, off + i * 2 + 1, none⟩) h2).trans (h3 i u hu).2⟩⟩
theorem UAt.take {B : Nat} {w : World} {p : Option Addr} {us : List Usr} (h : UAt B w p us) (k : Nat) : UAt B w p (us.take k) := by
  rcases h with h | ⟨b, off, h1, h2, h3⟩
  · exact .inl (by rw [h]; simp)
  · exact .inr ⟨b, off, h1, h2, fun i u hu => h3 i u (by rw [List.getElem?_take] at hu; split at hu <;> simp_all)⟩

/-- Whose name is this one. -/
def isNm (nm : ByteArray) (u : Usr) : Bool := u.1.toList == nm.toList
abbrev nmFn (bx : Nat) : Value := .func (.func 46) #[] #[.pointer (some ⟨bx, 0, none⟩)]
set_option maxRecDepth 100000 in
theorem nm_any (n s nm : ByteArray) (bx : Nat) (w : World) (hc : w.cell? ⟨bx, 0, none⟩ = some (.string nm)) (hb : bx < w.heap.size) :
    Calls Tryz.prog 46 #[.agg #[.string n, .string s], .pointer (some ⟨bx, 0, none⟩)] w fun r w' => r = .returned (.bool (isNm nm (n, s))) ∧ Below w.heap.size w w' := by
  go_enter Tryz.func46, Tryz.ntmps46
  go_wp2
  go_ret
  exact ⟨rfl, below_boxes _ _⟩

set_option maxRecDepth 100000 in
set_option maxHeartbeats 2000000 in
theorem indexU_any {B : Nat} {p : Option Addr} {l : List Usr} (c : Nat) (nm : ByteArray) (bx : Nat) (w : World) (hl : UAt B w p l) (hlen : l.length ≤ 9223372036854775807) (hB : B ≤ w.heap.size) (hc : w.cell? ⟨bx, 0, none⟩ = some (.string nm)) (hb : bx < w.heap.size) :
    Calls Tryz.prog 86 #[.slice p l.length c, nmFn bx] w fun r w' => r = .returned (.int .i64 (findI (isNm nm) l)) ∧ Below w.heap.size w w' := by
  have HL := Lib.hid hl
  clear hl
  obtain ⟨n, hn⟩ : ∃ n, l.length = n := ⟨_, rfl⟩
  have Hn := Lib.hid hn
  rw [hn] at hlen ⊢
  clear hn
  go_enter Tryz.func86, Tryz.ntmps86
  go_wp2
  go_loopw [8] (fun i wr => ∃ (j : Nat), i = .int .i64 j ∧ j ≤ n ∧ Hid (∀ i u, i < j → l[i]? = some u → isNm nm u = false) ∧ Hid (Below w.heap.size w wr)) (fun i _ => n - (intOf i).toNat)
  case atStart => exact ⟨0, rfl, Nat.zero_le _, fun i u h => by omega, Below.refl _ _⟩
  case round =>
    obtain ⟨j, rfl, hj, HQ, HG⟩ := hrel
    have hcw : wr.cell? ⟨bx, 0, none⟩ = some (.string nm) := (HG.out.cell (p := ⟨bx, 0, none⟩) hb).trans hc
    have hzw := HG.out.size
    by_cases hlt : j < n
    · rcases HL.out.below (HG.out.mono hB) with h0 | ⟨b, off, rfl, hbB, hel⟩
      · rw [← Hn.out, h0] at hlt; exact absurd hlt (by simp)
      obtain ⟨t, ht⟩ : ∃ t, l[j]? = some t := ⟨_, List.getElem?_eq_getElem (by rw [Hn.out]; exact hlt)⟩
      obtain ⟨e0, e1⟩ := hel j t ht
      have hi0 : (0 : Int) ≤ (j : Int) := by omega
      have hi1 : (j : Int) < (n : Int) := by omega
      have HT := Lib.hid ht
      clear hel ht
      obtain ⟨tn, ts⟩ := t
      have HC := Lib.hid (nm_any tn ts nm bx wr hcw (by omega))
      by_cases hk : isNm nm (tn, ts) = true
      · have HI := Lib.hid (findI_hit HT.out hk HQ.out)
        rw [hk] at HC
        clear hk
        go_wp2_with (go_at_call 46; refine HC.out.mono ?_; rintro r w2 ⟨rfl, hg2⟩)
        go_ret
        exact ⟨ret_i HI.out.symm, HG.out.trans (hg2.mono hzw)⟩
      · have hk' : isNm nm (tn, ts) = false := by simpa using hk
        have HK := Lib.hid hk'
        rw [hk'] at HC
        clear hk hk'
        go_wp2_with (go_at_call 46; refine HC.out.mono ?_; rintro r w2 ⟨rfl, hg2⟩)
        go_roundw
        case rel => exact ⟨j + 1, by go_num, by omega, fun i u hi hu => by
          by_cases h : i = j
          · rw [h, HT.out] at hu; cases hu; exact HK.out
          · exact HQ.out i u (by omega) hu, HG.out.trans (hg2.mono hzw)⟩
        case measure => simp [intOf]; omega
    · obtain rfl : j = n := by omega
      go_wp2
      go_ret
      exact ⟨ret_i (findI_none fun i u hi hu => HQ.out i u (by rw [← Hn.out]; exact hi) hu).symm, HG.out⟩

set_option maxRecDepth 100000 in
theorem containsU_any {B : Nat} {p : Option Addr} {l : List Usr} (c : Nat) (nm : ByteArray) (bx : Nat) (w : World) (hl : UAt B w p l) (hlen : l.length ≤ 9223372036854775807) (hB : B ≤ w.heap.size) (hc : w.cell? ⟨bx, 0, none⟩ = some (.string nm)) (hb : bx < w.heap.size) :
    Calls Tryz.prog 45 #[.slice p l.length c, nmFn bx] w fun r w' => r = .returned (.bool (l.any (isNm nm))) ∧ Below w.heap.size w w' := by
  have HC := Lib.hid (indexU_any c nm bx w hl hlen hB hc hb)
  rw [← findI_any]
  obtain ⟨R, hR⟩ : ∃ R, findI (isNm nm) l = R := ⟨_, rfl⟩
  rw [hR] at HC ⊢
  obtain ⟨n, hn⟩ : ∃ n, l.length = n := ⟨_, rfl⟩
  rw [hn] at HC hlen ⊢
  clear hR hn hl
  go_enter Tryz.func45, Tryz.ntmps45
  go_wp2_with (go_at_call 86; refine HC.out.mono ?_; rintro r w2 ⟨rfl, hb2⟩)
  go_ret
  exact ⟨rfl, hb2⟩
end Go.Proofs.YtannnhopgdlapaaGreatDoor.Uc
