/-
  Plain: of which kind a described value is. No condition.
-/
import Derived.Test.YtfoiaiblggapeaaGreatDoorNuEq
import Derived.Test.YtfoiaiblggapeaaGreatDoorNuB
namespace Go.Proofs.Nu
open Go Go.RowKit
def empt : ByteArray := ⟨#[]⟩
def hitR (d : VT) (k : Int) : Bool := (!(nameL k).isEmpty) && (eqT d (.mk 5 k empt 0 []) || eqT d (.mk 20 0 (nameB k) 0 []))
/-- The first kind from k on, of n. -/
def findR (d : VT) : Int → Nat → Option Int
  | _, 0 => none
  | k, n + 1 => if hitR d k then some k else findR d (k + 1) n
def kindD (d : VT) : Option Int := findR d 1 199
def kindOf (t : VT) : Option Int := if t.kind = 24 ∧ t.list.length = 2 then (t.list.head?).bind kindD else none
def kNum (o : Option Int) : Int := o.getD 0

theorem findR_some {d : VT} : ∀ {n : Nat} {k j : Int}, k ≤ j → j < k + n → hitR d j = true → (∀ i, k ≤ i → i < j → hitR d i = false) → findR d k n = some j
  | 0, k, j, h1, h2, _, _ => by omega
  | n + 1, k, j, h1, h2, h3, h4 => by
    by_cases h : k = j
    · subst h; simp [findR, h3]
    · rw [findR, h4 k (by omega) (by omega)]
      simpa using findR_some (by omega) (by omega) h3 fun i a b => h4 i (by omega) b
theorem findR_none {d : VT} : ∀ {n : Nat} {k : Int}, (∀ i, k ≤ i → i < k + n → hitR d i = false) → findR d k n = none
  | 0, k, _ => rfl
  | n + 1, k, h => by
    rw [findR, h k (by omega) (by omega)]
    simpa using findR_none fun i a b => h i (by omega) (by omega)
theorem eqTs_nil (l : List VT) : eqTs l [] = decide (l = []) := by cases l <;> simp [eqTs]
theorem eq_num (d : VT) (k : Int) : eqT d (.mk 5 k empt 0 []) = true ↔ d.kind = 5 ∧ d.num = k ∧ d.text = empt ∧ d.elem = 0 ∧ d.list = [] := by
  rw [eqT_mk]
  simp only [VT.kind, VT.num, VT.text, VT.elem, VT.list, Bool.and_eq_true, beq_iff_eq, eqTs_nil, decide_eq_true_eq]
  constructor
  · rintro ⟨a, b, c, e, f⟩; exact ⟨a, b, toList_inj c, e, f⟩
  · rintro ⟨a, b, c, e, f⟩; exact ⟨a, b, by rw [c], e, f⟩
theorem eq_sym (d : VT) (s : ByteArray) : eqT d (.mk 20 0 s 0 []) = true ↔ d.kind = 20 ∧ d.num = 0 ∧ d.text = s ∧ d.elem = 0 ∧ d.list = [] := by
  rw [eqT_mk]
  simp only [VT.kind, VT.num, VT.text, VT.elem, VT.list, Bool.and_eq_true, beq_iff_eq, eqTs_nil, decide_eq_true_eq]
  constructor
  · rintro ⟨a, b, c, e, f⟩; exact ⟨a, b, toList_inj c, e, f⟩
  · rintro ⟨a, b, c, e, f⟩; exact ⟨a, b, by rw [c], e, f⟩
theorem hitR_iff (d : VT) (k : Int) : hitR d k = true ↔ nameL k ≠ [] ∧ ((d.kind = 5 ∧ d.num = k ∧ d.text = empt ∧ d.elem = 0 ∧ d.list = []) ∨ (d.kind = 20 ∧ d.num = 0 ∧ d.text = nameB k ∧ d.elem = 0 ∧ d.list = [])) := by
  unfold hitR
  simp only [Bool.and_eq_true, Bool.or_eq_true, eq_num, eq_sym, Bool.not_eq_true', List.isEmpty_eq_false_iff, ne_eq]
theorem hitR_false {d : VT} {k : Int} (h : ¬ (nameL k ≠ [] ∧ ((d.kind = 5 ∧ d.num = k ∧ d.text = empt ∧ d.elem = 0 ∧ d.list = []) ∨ (d.kind = 20 ∧ d.num = 0 ∧ d.text = nameB k ∧ d.elem = 0 ∧ d.list = [])))) : hitR d k = false := by
  cases hh : hitR d k with
  | false => rfl
  | true => exact absurd ((hitR_iff d k).1 hh) h
theorem name_out {k : Int} (h : k < 16 ∨ 120 < k) : nameL k = [] := name_none fun r hr hc => by
  have hb : ∀ r ∈ rows, 16 ≤ r.1 ∧ r.1 + r.2.length ≤ 121 := by decide
  have := hb r hr
  omega
/-- A number as the descriptor. -/
structure NumD (d : VT) : Prop where
  kind : d.kind = 5
  text : d.text = empt
  elem : d.elem = 0
  list : d.list = []
structure SymD (d : VT) : Prop where
  kind : d.kind = 20
  num : d.num = 0
  elem : d.elem = 0
  list : d.list = []
theorem kindD_num {d : VT} (h : NumD d) (hn : nameL d.num ≠ []) : kindD d = some d.num := by
  have hb : 16 ≤ d.num ∧ d.num ≤ 120 := by
    by_cases hh : d.num < 16 ∨ 120 < d.num
    · exact absurd (name_out hh) hn
    · omega
  refine findR_some (by omega) (by omega) ((hitR_iff _ _).2 ⟨hn, .inl ⟨h.kind, rfl, h.text, h.elem, h.list⟩⟩) fun i _ hi => hitR_false ?_
  rintro ⟨_, ⟨_, h2, _⟩ | ⟨h2, _⟩⟩
  · omega
  · rw [h.kind] at h2; cases h2
theorem kindD_num_none {d : VT} (h : NumD d) (hn : nameL d.num = []) : kindD d = none := by
  refine findR_none fun i _ _ => hitR_false ?_
  rintro ⟨h1, ⟨_, h2, _⟩ | ⟨h2, _⟩⟩
  · rw [h2] at hn; exact h1 hn
  · rw [h.kind] at h2; cases h2
theorem nameB_eq {k : Int} {s : ByteArray} (h : s = nameB k) : s.data.toList = nameL k := by rw [h]; rfl
theorem nameB_toList (k : Int) : (nameB k).toList = nameL k := by rw [Lib.toList_data]; rfl
theorem kindD_sym {d : VT} (h : SymD d) {k : Int} (h0 : d.text ≠ empt) (hk : d.text = nameB k) (hlo : ∀ i, 16 ≤ i → i < k → nameL i ≠ [] → d.text ≠ nameB i) : kindD d = some k := by
  have hn : nameL k ≠ [] := fun hh => h0 (by rw [hk]; unfold nameB; rw [hh]; rfl)
  have hb : 16 ≤ k ∧ k ≤ 120 := by
    by_cases hh : k < 16 ∨ 120 < k
    · exact absurd (name_out hh) hn
    · omega
  refine findR_some (by omega) (by omega) ((hitR_iff _ _).2 ⟨hn, .inr ⟨h.kind, h.num, hk, h.elem, h.list⟩⟩) fun i _ hi => hitR_false ?_
  rintro ⟨h1, ⟨h2, _⟩ | ⟨_, _, h2, _⟩⟩
  · rw [h.kind] at h2; cases h2
  · by_cases hh : 16 ≤ i
    · exact hlo i hh hi h1 h2
    · exact h1 (name_out (by omega))
theorem kindD_sym_none {d : VT} (h : SymD d) (hlo : ∀ i, 16 ≤ i → i ≤ 120 → nameL i ≠ [] → d.text ≠ nameB i) : kindD d = none := by
  refine findR_none fun i _ _ => hitR_false ?_
  rintro ⟨h1, ⟨h2, _⟩ | ⟨_, _, h2, _⟩⟩
  · rw [h.kind] at h2; cases h2
  · by_cases hh : 16 ≤ i ∧ i ≤ 120
    · exact hlo i hh.1 hh.2 h1 h2
    · exact h1 (name_out (by omega))
theorem kindD_none {d : VT} (h1 : ¬ NumD d) (h2 : ¬ SymD d) : kindD d = none := by
  refine findR_none fun i _ _ => hitR_false ?_
  rintro ⟨_, ⟨a, _, b, c, e⟩ | ⟨a, b, _, c, e⟩⟩
  · exact h1 ⟨a, b, c, e⟩
  · exact h2 ⟨a, b, c, e⟩
theorem name_prefix {k : Int} (h : nameL k ≠ []) : lng <+: nameL k := by
  unfold nameL at h ⊢
  split
  · exact ⟨_, by rw [List.append_assoc, List.append_assoc]⟩
  · rename_i hh; rw [hh] at h; exact absurd rfl h
end Go.Proofs.Nu
