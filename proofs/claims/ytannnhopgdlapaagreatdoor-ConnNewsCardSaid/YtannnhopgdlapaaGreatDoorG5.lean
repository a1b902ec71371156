/-
  Users cloned; a server's guard made. No condition but that the users lie so.
-/
import Derived.Test.YtannnhopgdlapaaGreatDoorG4
import Derived.Laws.AppendOwn
import Derived.Laws.AppendOwnNone
import Derived.OwnWalk
namespace Go.Proofs.YtannnhopgdlapaaGreatDoor.Uc
open Go Go.RowKit Go.Proofs.Nu

/-- The users' slice. -/
def UsAt (B : Nat) (w : World) (v : Value) (us : List Usr) : Prop := us.length * 32 ≤ 140737488351232 ∧ ((us = [] ∧ v = .slice none 0 0) ∨ ∃ a c, v = .slice (some a) us.length c ∧ us.length ≤ c ∧ c ≤ maxLen ∧ UAt B w (some a) us)
theorem UsAt.below {B : Nat} {w w' : World} {v : Value} {us : List Usr} (h : UsAt B w v us) (hb : Below B w w') : UsAt B w' v us := by
  obtain ⟨h0, h | ⟨a, c, h1, h2, h3, h4⟩⟩ := h
  · exact ⟨h0, .inl h⟩
  · exact ⟨h0, .inr ⟨a, c, h1, h2, h3, h4.below hb⟩⟩
theorem UsAt.form {B : Nat} {w : World} {v : Value} {us : List Usr} (h : UsAt B w v us) : ∃ p c, v = .slice p us.length c ∧ us.length ≤ c ∧ UAt B w p us := by
  obtain ⟨h0, ⟨rfl, rfl⟩ | ⟨a, c, h1, h2, h3, h4⟩⟩ := h
  · exact ⟨none, 0, rfl, Nat.le_refl _, .inl rfl⟩
  · exact ⟨some a, c, h1, h2, h4⟩
def cellsU (us : List Usr) : List Value := us.flatMap fun u => [.string u.1, .string u.2]
theorem cellsU_length (us : List Usr) : (cellsU us).length = us.length * 2 := by
  induction us with
  | nil => rfl
  | cons u r ih => simp [cellsU] at ih ⊢; omega
theorem cellsU_get {us : List Usr} {j : Nat} {x : Value} (h : (cellsU us)[j]? = some x) : ∃ i u, us[i]? = some u ∧ ((j = i * 2 ∧ x = .string u.1) ∨ (j = i * 2 + 1 ∧ x = .string u.2)) := by
  induction us generalizing j with
  | nil => simp [cellsU] at h
  | cons u r ih =>
    match j, h with
    | 0, h => exact ⟨0, u, rfl, .inl ⟨rfl, by simpa [cellsU] using h.symm⟩⟩
    | 1, h => exact ⟨0, u, rfl, .inr ⟨rfl, by simpa [cellsU] using h.symm⟩⟩
    | j + 2, h =>
      obtain ⟨i, u', hu, hh⟩ := ih (j := j) (by simpa [cellsU] using h)
      exact ⟨i + 1, u', by simpa using hu, hh.imp (fun ⟨a, b⟩ => ⟨by omega, b⟩) (fun ⟨a, b⟩ => ⟨by omega, b⟩)⟩
theorem cellsU_one {us : List Usr} : ∀ x ∈ cellsU us, x.oneCell' = true := by
  intro x hx
  obtain ⟨j, hj⟩ := List.getElem?_of_mem hx
  obtain ⟨i, u, _, ⟨_, rfl⟩ | ⟨_, rfl⟩⟩ := cellsU_get hj <;> rfl
theorem UAt.cells {B : Nat} {w : World} {a : Addr} {us : List Usr} (h : UAt B w (some a) us) : ∀ j x, (cellsU us)[j]? = some x → w.cell? (a.add j) = some x := by
  intro j x hx
  rcases h with h | ⟨b, off, h1, h2, h3⟩
  · subst h; simp [cellsU] at hx
  · cases h1
    obtain ⟨i, u, hu, ⟨rfl, rfl⟩ | ⟨rfl, rfl⟩⟩ := cellsU_get hx
    · rw [Addr.add_lit]; exact (h3 i u hu).1
    · rw [Addr.add_lit, ← Nat.add_assoc]; exact (h3 i u hu).2
theorem infoU : (Tryz.prog.info? 24).map (fun i => (i.zero, i.size, i.bytes)) = some (some (.agg #[.string ⟨#[]⟩, .string ⟨#[]⟩]), 2, 32) := by kernel_rfl
theorem own_slice {w : World} {base : Nat} {e : TypeId} {size : Nat} {v : Value} {n : Nat} {xs : List Value} (h : w.ownsRow base e size v n xs) : ∃ p n' c, v = .slice p n' c := by
  rcases h.2 with ⟨rfl, rfl⟩ | ⟨g, cap, cur, rfl, _⟩
  · exact ⟨_, _, _, rfl⟩
  · exact ⟨_, _, _, rfl⟩

set_option maxRecDepth 100000 in
set_option maxHeartbeats 2000000 in
theorem cloneU_any {B : Nat} {v : Value} {us : List Usr} (w : World) (h : UsAt B w v us) (hB : B ≤ w.heap.size) :
    Calls Tryz.prog 18 #[v] w fun e w' => (∃ p n c, e = .returned (.slice p n c)) ∧ Below w.heap.size w w' := by
  have q22 : ∀ (w : World) (a : Option Addr) (n c n' c' : Nat), (binOp .eql 22 (.slice a n c) (.slice none n' c')).run Tryz.prog w = .ok (.bool a.isNone) w := fun w a n c n' c' => Lib.run_eql_slice_nil w _ _ a n c n' c' Tryz.underlying22
  obtain ⟨h0, ⟨rfl, rfl⟩ | ⟨a, c, rfl, h2, h3, h4⟩⟩ := h
  · go_enter Tryz.func18, Tryz.ntmps18
    go_wp2
    go_ret
    exact ⟨⟨_, _, _, rfl⟩, Below.refl _ _⟩
  · obtain ⟨i0, hi, hz0, hz1, hz2⟩ := info_parts infoU
    obtain ⟨n, hn⟩ : ∃ n, us.length = n := ⟨_, rfl⟩
    have HC := Lib.hid h4.cells
    have HL := Lib.hid ((cellsU_length us).trans (by rw [hn]))
    rw [hn] at h0 h2 ⊢
    have hn1 : 0 + n ≤ maxLen := by omega
    have hn2 : (0 + n) * 32 ≤ 140737488355328 := by omega
    clear h4 h2 h3 h0 hn
    go_enter Tryz.func18, Tryz.ntmps18
    go_wp2_with (at_builtin; refine wpList_append_own _ rfl _ _ 22 rfl w.heap.size 24 i0 _ 2 32 Tryz.underlying22 hi hz0 hz1 hz2 rfl (by omega) _ _ _ rfl (World.ownsRow_made w #[] 0 (Nat.le_refl _) (Nat.zero_le _) (by simp)) a n c (cellsU us) rfl HL.out ?qc2 cellsU_one hn1 hn2 ?qc6 ?_)
    case qc2 =>
      intro j u hj
      exact Lib.cell?_alloc_some _ (HC.out j u hj)
    case qc6 => rw [size_alloc]; omega
    intro v' w1 hown hgrow _
    obtain ⟨p', n', c', rfl⟩ := own_slice hown
    go_wp2
    go_ret
    exact ⟨⟨_, _, _, rfl⟩, (below_boxes w _).grown hgrow (by rw [size_alloc]; omega) (by intro k hk; simp [Value.ownBlock] at hk; omega)⟩
end Go.Proofs.YtannnhopgdlapaaGreatDoor.Uc
