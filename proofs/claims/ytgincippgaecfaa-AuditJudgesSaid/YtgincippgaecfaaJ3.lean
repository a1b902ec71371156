/-
  The reference's begins and leads: their walks. No condition but the reach.
-/
import Derived.Test.YtgincippgaecfaaJ2
import Derived.Deep.RegionWith
import Derived.Lib.IndexBytes
namespace Go.Proofs.Ytgincippgaecfaa.Au
open Go Go.RowKit

theorem take_toList (s : ByteArray) (n : Nat) : (s.extract 0 n).toList = s.toList.take n := by
  rw [Lib.toList_data, Lib.toList_data, Lib.extract_data]; simp
theorem drop_toList (s : ByteArray) (n : Nat) : (s.extract n s.size).toList = s.toList.drop n := by
  rw [Lib.toList_data, Lib.toList_data, Lib.extract_to_end]
theorem size_toList (s : ByteArray) : s.toList.length = s.size := by
  rw [Lib.toList_data, Lib.size_eq]
theorem beginsB_take {s h : ByteArray} : beginsB s.toList h.toList = ((s.extract 0 h.size).toList == h.toList) := by
  unfold beginsB
  rw [take_toList, size_toList]
theorem beginsB_short {s h : ByteArray} (hl : ¬ h.size ≤ s.size) : beginsB s.toList h.toList = false := by
  unfold beginsB
  rw [size_toList, beq_eq_false_iff_ne]
  intro e
  have := congrArg List.length e
  rw [List.length_take, size_toList, size_toList] at this
  omega
theorem beginsB_size {s h : ByteArray} (hb : beginsB s.toList h.toList = true) : h.size ≤ s.size := by
  false_or_by_contra
  rename_i hl
  rw [beginsB_short hl] at hb
  cases hb

set_option maxRecDepth 100000 in
set_option maxHeartbeats 1000000 in
theorem begins_any (s h : ByteArray) (w : World) :
    Calls Try.prog 57 #[.string s, .string h] w fun r w' => r = .returned (.bool (beginsB s.toList h.toList)) ∧ w' = w := by
  go_enter Try.func57, Try.ntmps57
  by_cases hl : h.size ≤ s.size
  · go_wp2
    go_ret
    exact ⟨ret_bool beginsB_take.symm, rfl⟩
  · go_wp2
    go_ret
    exact ⟨ret_bool (beginsB_short hl).symm, rfl⟩

def topicA : ByteArray := ⟨#[116, 111, 112, 105, 99, 47]⟩
def queueA : ByteArray := ⟨#[113, 117, 101, 117, 101, 47]⟩
theorem topicA_list : topicA.toList = topicB := by kernel_rfl
theorem queueA_list : queueA.toList = queueB := by kernel_rfl

theorem leads_same {qs : List Qc} {a b : Nm} (h : (a == b) = true) : leadsB qs a b = true := by unfold leadsB; simp [eq_of_beq h]
theorem leads_topic {qs : List Qc} {a b : Nm} (h : beginsB a topicB = true) : leadsB qs a b = true := by unfold leadsB; simp [h]
theorem leads_one {qs : List Qc} {a b : Nm} (h : (a == b) = false) (ht : beginsB a topicB = false) (h1 : beginsB a queueB = false) : leadsB qs a b = false := by
  have h := ne_of_beq_false h
  unfold leadsB; simp [h, ht, h1]
theorem leads_two {qs : List Qc} {a b : Nm} (h : (a == b) = false) (ht : beginsB a topicB = false) (h1 : beginsB b queueB = false) : leadsB qs a b = false := by
  have h := ne_of_beq_false h
  unfold leadsB; simp [h, ht, h1]
open Classical in
theorem leads_way {qs : List Qc} {a b : Nm} (h : (a == b) = false) (ht : beginsB a topicB = false) (h1 : beginsB a queueB = true) (h2 : beginsB b queueB = true) {r : Bool} (hr : r = true ↔ Reach qs (a.drop 6) (b.drop 6)) : leadsB qs a b = r := by
  have h := ne_of_beq_false h
  have hi : (a = b ∨ beginsB a topicB = true ∨ (beginsB a queueB = true ∧ beginsB b queueB = true ∧ Reach qs (a.drop 6) (b.drop 6))) ↔ r = true := by
    rw [hr]
    constructor
    · rintro (e | e | ⟨_, _, e⟩)
      · exact absurd e h
      · rw [ht] at e; cases e
      · exact e
    · exact fun e => .inr (.inr ⟨h1, h2, e⟩)
  unfold leadsB
  cases r
  · exact decide_eq_false fun e => by cases hi.1 e
  · exact decide_eq_true (hi.2 rfl)
theorem not_yes {a : Bool} (h : (!a) = true) : a = false := by simpa using h
theorem not_no {a : Bool} (h : (!a) = false) : a = true := by simpa using h

set_option maxRecDepth 100000 in
set_option maxHeartbeats 8000000 in
theorem leads_any (B : Nat) (sv : Value) (qs : List Qc) (a b : ByteArray) (w : World) (hq : qs.length * 56 ≤ 140737488351232) (hB : B ≤ w.heap.size) (hs : QsAt B w sv qs) :
    Calls Try.prog 58 #[sv, .string a, .string b] w fun r w' => r = .returned (.bool (leadsB qs a.toList b.toList)) ∧ Below B w w' := by
  have hre : ∀ W, Below B w W → Calls Try.prog 84 #[sv, .string (a.extract 6 a.size)] W fun r w' => ∃ v' os, r = .returned v' ∧ Strs B w' v' os ∧ os.length ≤ qs.length ∧ (∀ g : Nm, hasL os g = true ↔ Reach qs (a.toList.drop 6) g) ∧ Below B W w' := fun W hW => by
    rw [← drop_toList]
    exact reached_any B sv qs _ W hq (Nat.le_trans hB hW.size) (hs.below hW)
  obtain ⟨f, hf⟩ : ∃ f : ByteArray → ByteArray → Bool, ∀ s h, beginsB s.toList h.toList = f s h := ⟨fun s h => beginsB s.toList h.toList, fun _ _ => rfl⟩
  have hbe : ∀ s h W, Calls Try.prog 57 #[.string s, .string h] W fun r w' => r = .returned (.bool (f s h)) ∧ w' = W := fun s h W => by
    have := begins_any s h W
    rwa [hf] at this
  have H1 : ∀ x, f a ⟨#[116, 111, 112, 105, 99, 47]⟩ = x → beginsB a.toList topicB = x := fun x e => by rw [← topicA_list, hf]; exact e
  have H2 : ∀ x, f a ⟨#[113, 117, 101, 117, 101, 47]⟩ = x → beginsB a.toList queueB = x := fun x e => by rw [← queueA_list, hf]; exact e
  have H3 : ∀ x, f b ⟨#[113, 117, 101, 117, 101, 47]⟩ = x → beginsB b.toList queueB = x := fun x e => by rw [← queueA_list, hf]; exact e
  have s1 : f a ⟨#[113, 117, 101, 117, 101, 47]⟩ = true → 6 ≤ a.size := fun e => beginsB_size (h := queueA) ((hf _ _).trans e)
  have s2 : f b ⟨#[113, 117, 101, 117, 101, 47]⟩ = true → 6 ≤ b.size := fun e => beginsB_size (h := queueA) ((hf _ _).trans e)
  have HH1 := Lib.hid H1
  have HH2 := Lib.hid H2
  have HH3 := Lib.hid H3
  have HS1 := Lib.hid s1
  have HS2 := Lib.hid s2
  clear hs H1 H2 H3 s1 s2 hf
  go_enter Try.func58, Try.ntmps58
  go_wp2_with (first
    | (go_at_call 57; refine (hbe _ _ _).mono ?_; rintro r w2 ⟨rfl, hw2⟩; cases hw2)
    | go_in)
  · go_ret
    exact ⟨ret_bool (leads_same (by assumption)).symm, Below.refl _ _⟩
  · go_ret
    exact ⟨ret_bool (leads_topic (HH1.out _ (by assumption))).symm, Below.refl _ _⟩
  · go_ret
    exact ⟨ret_bool (leads_two (by assumption) (HH1.out _ (by assumption)) (HH3.out _ (not_yes (by assumption)))).symm, Below.refl _ _⟩
  · have g1 := HS1.out (by assumption)
    have g2 := HS2.out (not_no (by assumption))
    go_region_with (first
      | (go_at_call 84; refine (hre _ ?_).mono ?_; exact (Below.refl _ _).drew; rintro r w2 ⟨v2, os2, rfl, hs2, hl2, hr2, hb2⟩)
      | (go_at_call 83; refine (has_any _ _ _ _ _ hs2 (by omega)).mono ?_; rintro r w4 ⟨rfl, rfl⟩))
    all_goals go_wp2
    all_goals go_ret
    all_goals exact ⟨ret_bool (leads_way (by assumption) (HH1.out _ (by assumption)) (HH2.out _ (by assumption)) (HH3.out _ (not_no (by assumption))) (by rw [drop_toList]; exact hr2 _)).symm, (Below.refl _ _).drew.trans hb2⟩
  · go_ret
    exact ⟨ret_bool (leads_one (by assumption) (HH1.out _ (by assumption)) (HH2.out _ (Bool.eq_false_iff.2 (by assumption)))).symm, Below.refl _ _⟩

end Go.Proofs.Ytgincippgaecfaa.Au
