/-
  CE: shape.names, evaluated: the map that it makes, and its rows. Condition: the table strings.asciiSpace lies as the program's text lays it.
-/
import Derived.Test.YtfoiaiblggapeaaGreatDoorProg
import Derived.Test.YtfoiaiblggapeaaGreatDoorCeH
import Derived.Test.YtfoiaiblggapeaaGreatDoorNuB
import Derived.Lib.Space
import Derived.KernelRfl
import Derived.MapKept
namespace Go.Proofs.YtfoiaiblggapeaaGreatDoor.Nm
open Go Go.RowKit Go.CE Go.Proofs.Nu

theorem mixed : Tryz.prog.follows .mixedOrders = true := by kernel_rfl
theorem noCount : NoCount Tryz.prog := noCount_of (by kernel_rfl)
noncomputable def space : List (Nat × List Value) := [(0, Lib.asciiSpaceTab.map fun z => Value.int .u8 z)]

noncomputable def rowOk (h : H) (e : MapEntry) (r : Int × List (List UInt8)) (b : Nat) : Bool :=
  (match e.key with
    | .int .i64 k => decide (k = r.1)
    | _ => false) && ((match rowA h 1 e.val r.2.length with
    | some cs => veqL (veq 8) cs (r.2.map fun s => Value.string ⟨s.toArray⟩)
    | none => false) && Nat.beq e.born b)
noncomputable def rowsOk (h : H) : List MapEntry → List (Int × List (List UInt8)) → Nat → Bool
  | [], [], _ => true
  | e :: es, r :: rs, b => rowOk h e r b && rowsOk h es rs (b + 1)
  | _, _, _ => false
noncomputable def namesOk (v : Value) (h : H) : Bool :=
  match v with
  | .map (some m) => match h.hp.get m with
    | some (.map es clock) => rowsOk h es rows 0 && (Nat.beq clock 6 && Nat.ble 7 m)
    | _ => false
  | _ => false
theorem evaluated : evSeen Tryz.prog 7 1000000 [] 35 [] space namesOk = true := by kernel_rfl

/-- The strings that a slice holds. -/
def StrsAt (w : World) (v : Value) (l : List (List UInt8)) : Prop :=
  ∃ b off c, v = .slice (some ⟨b, off, none⟩) l.length c ∧ b < w.heap.size ∧ ∀ i s, l[i]? = some s → w.cell? ⟨b, off + i, none⟩ = some (.string ⟨s.toArray⟩)
/-- A map that holds the rows. -/
def RowsAt (w : World) (es : List MapEntry) (b : Nat) : List (Int × List (List UInt8)) → Prop
  | [] => es = []
  | r :: rs => ∃ e t, es = e :: t ∧ e.key = .int .i64 r.1 ∧ StrsAt w e.val r.2 ∧ e.born = b ∧ RowsAt w t (b + 1) rs

theorem rows_at {h : H} {ρ : CE.Ren} {w : World} (hr : HR 7 h ρ w) : ∀ (rs : List (Int × List (List UInt8))) (es : List MapEntry) (es' : List MapEntry) (b : Nat), rowsOk h es rs b = true → L2 (EntR h.nx ρ) es es' → RowsAt w es' b rs
  | [], [], es', b, _, hl => hl.nil_left
  | [], _ :: _, _, _, h, _ => by cases h
  | _ :: _, [], _, _, h, _ => by cases h
  | r :: rs, e :: es, es', b, hk, hl => by
    obtain ⟨e', t', rfl, he, ht⟩ := hl.cons_left
    have hk' : (rowOk h e r b && rowsOk h es rs (b + 1)) = true := hk
    simp only [Bool.and_eq_true] at hk'
    obtain ⟨h1, h2⟩ := hk'
    unfold rowOk at h1
    simp only [Bool.and_eq_true] at h1
    obtain ⟨k1, k2, k3⟩ := h1
    refine ⟨e', t', rfl, ?_, ?_, by rw [he.2.2]; exact Nat.eq_of_beq_eq_true k3, rows_at hr rs es t' (b + 1) h2 ht⟩
    · have hkey := he.1
      split at k1
      · rename_i k hek
        rw [hek] at hkey
        have : k = r.1 := of_decide_eq_true k1
        subst this
        generalize e'.key = y at hkey
        cases hkey
        rfl
      · cases k1
    · split at k2
      · rename_i cs hcs
        have hcs' := veqL8 _ _ k2
        obtain ⟨i, k, c, b', off, c', e1, e2, e3, e4, e5, e6, e7, e8, e9⟩ := rowA_at hr he.2.1 hcs
        refine ⟨b', off, c', e5, e7, fun j s hs => ?_⟩
        obtain ⟨y, hy, hv⟩ := e9 j (.string ⟨s.toArray⟩) (by rw [hcs', List.getElem?_map, hs]; rfl)
        rw [hy]
        cases hv
        rfl
      · cases k2

theorem names_any {w : World} {t : TypeId} (hsp : w.heap[0]? = some (.cells (Lib.asciiSpaceTab.map fun z => Value.int .u8 z).toArray t (0, 0))) :
    Calls Tryz.prog 35 #[] w fun e w' => ∃ bm es clock, e = .returned (.map (some bm)) ∧ w'.heap[bm]? = some (.map es clock) ∧ RowsAt w' es.toList 0 rows ∧ clock = 6 ∧ w.heap.size ≤ bm ∧ Below w.heap.size w w' := by
  refine (calls_seen mixed noCount (memo_none _ _) evaluated (w := w) (lies_tab (g := 0) (by decide) hsp)).mono ?_
  rintro e w' ⟨v', rfl, ⟨v, h, ρ, hok, hv, hr, hnew⟩, hb⟩
  unfold namesOk at hok
  split at hok
  · rename_i m
    split at hok
    · rename_i es clock hm
      simp only [Bool.and_eq_true] at hok
      obtain ⟨h1, h2, h3⟩ := hok
      have hc : clock = 6 := Nat.eq_of_beq_eq_true h2
      cases hv with
      | map _ hin =>
        obtain ⟨_, ob, hob, hobj⟩ := hr.obj m _ hm
        cases hobj with
        | map _ _ es' hm' =>
          exact ⟨(ρ m).1, es', clock, rfl, hob, rows_at hr rows es es'.toList 0 h1 hm', hc, hnew m (Nat.le_of_ble_eq_true h3) (by rw [hm]; simp), hb⟩
    · cases hok
  · cases hok
end Go.Proofs.YtfoiaiblggapeaaGreatDoor.Nm
