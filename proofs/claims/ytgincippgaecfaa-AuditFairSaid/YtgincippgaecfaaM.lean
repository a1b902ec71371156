/-
  Maps of ints as they read: what a map tells, by a function. Histories walked backward. No program in sight.
-/
import Derived.Test.YtgincippgaecfaaPlain
import Derived.Maps.Own
import Derived.Maps.Views
import Derived.Maps.Range
namespace Go.Proofs.Ytgincippgaecfaa.Au
open Go Go.RowKit Go.Maps

abbrev DU := DataW Unit

/-- The map tells f: at m it has i just where f m = some i. -/
def Tells (D : DU) (f : Int → Option Nat) : Prop :=
  IsMap D ∧ ∀ m, (f m = none → has D (.int .i64 m) = false) ∧ ∀ i, f m = some i → has D (.int .i64 m) = true ∧ ∀ z, D.atKey (.int .i64 m) z = .lit (.int .i64 i)

theorem Tells.start : Tells (.map []) fun _ => none := ⟨⟨[], rfl⟩, fun _ => ⟨fun _ => rfl, fun _ h => by cases h⟩⟩

theorem Tells.put {D : DU} {f : Int → Option Nat} (h : Tells D f) (m : Int) (i : Nat) (hk : WideAt.IsKeyLit (.int .i64 m)) : Tells (D.put (.int .i64 m) (.lit (.int .i64 i))) fun x => if x = m then some i else f x := by
  refine ⟨?_, fun x => ?_⟩
  · have := h.1
    cases D <;> simp_all [IsMap, DataW.put]
  · by_cases hx : x = m
    · subst hx
      simp only [if_true]
      refine ⟨fun e => by (cases e), fun j hj => ?_⟩
      cases hj
      exact ⟨has_put_same h.1 hk _, fun z => atKey_put_same h.1 hk _ _⟩
    · simp only [hx, if_false]
      have hne : Lit.int .i64 x ≠ .int .i64 m := fun e => hx (by cases e; rfl)
      refine ⟨fun e => by rw [has_put_other hne]; exact (h.2 x).1 e, fun j hj => ⟨by rw [has_put_other hne]; exact ((h.2 x).2 j hj).1, fun z => by rw [atKey_put_other hne]; exact ((h.2 x).2 j hj).2 z⟩⟩

/-- .. read with a word for 'none'. -/
theorem Tells.at {D : DU} {f : Int → Option Nat} (h : Tells D f) (m : Int) : has D (.int .i64 m) = (f m).isSome := by
  cases hf : f m with
  | none => exact (h.2 m).1 hf
  | some i => exact ((h.2 m).2 i hf).1

/-- The places that came, backward: the last that came. -/
def lastOf (es : List Ent) (p : Int → Ent → Bool) (pre : List (Fin es.length)) (m : Int) : Option Nat := (pre.reverse.find? fun i => p m es[i]).map (·.1)

theorem lastOf_nil (es : List Ent) (p : Int → Ent → Bool) (m : Int) : lastOf es p [] m = none := rfl
theorem lastOf_snoc (es : List Ent) (p : Int → Ent → Bool) (pre : List (Fin es.length)) (x : Fin es.length) (m : Int) : lastOf es p (pre ++ [x]) m = if p m es[x] = true then some x.1 else lastOf es p pre m := by
  unfold lastOf
  rw [List.reverse_append]
  simp only [List.reverse_cons, List.reverse_nil, List.nil_append, List.singleton_append, List.find?_cons]
  cases p m es[x] <;> simp
theorem find_fin (p : Ent → Bool) : ∀ es : List Ent, ((List.finRange es.length).find? fun i => p es[i]).map (·.1) = es.findIdx? p
  | [] => rfl
  | e :: es => by
    have ih := find_fin p es
    simp only [List.length_cons, List.finRange_succ, List.find?_cons, List.find?_map, List.findIdx?_cons]
    cases hp : p e
    · have h0 : p (e :: es)[(0 : Fin (es.length + 1))] = false := hp
      rw [h0, ← ih]
      show Option.map _ (Option.map Fin.succ (List.find? (fun i => p es[i]) (List.finRange es.length))) = _
      cases (List.finRange es.length).find? (fun i => p es[i]) <;> rfl
    · have h0 : p (e :: es)[(0 : Fin (es.length + 1))] = true := hp
      rw [h0]; rfl

/-- Backward over all of it: the first place. -/
theorem lastOf_all (es : List Ent) (p : Int → Ent → Bool) (m : Int) : lastOf es p (List.finRange es.length).reverse m = es.findIdx? (p m) := by
  unfold lastOf
  rw [List.reverse_reverse]
  exact find_fin (p m) es

end Go.Proofs.Ytgincippgaecfaa.Au
