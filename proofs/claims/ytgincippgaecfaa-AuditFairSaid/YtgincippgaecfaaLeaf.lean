/-
  The leaves: may an entry be? The program's isEntry and amiss$1, the reference's may: each tells okE, and nothing that lay turns. No condition.
-/
import Derived.Test.YtgincippgaecfaaRows
import Derived.Test.YtgincippgaecfaaPlain
import Derived.WalkKit
import Derived.WalkSpells
import Derived.WalkLawsBesides
import Derived.Deep.Light
namespace Go.Proofs.Ytgincippgaecfaa.Au
open Go.RowKit

abbrev Ent.val (e : Ent) : Value := .agg #[.int .i64 e.kind, .int .i64 e.who, .string e.queue, .int .i64 e.msg, .int .i64 e.count, .bool e.dur]

theorem ret_bool {a b : Bool} (h : a = b) : Ending.returned (.bool a) = .returned (.bool b) := by rw [h]

/-- The closing of a way: what the tests say decides okE. -/
theorem Ent.eta (e : Ent) : e = ⟨e.kind, e.who, e.queue, e.msg, e.count, e.dur⟩ := rfl

set_option maxRecDepth 100000 in
set_option maxHeartbeats 1000000 in
theorem isEntry_raw (k who m c : Int) (q : ByteArray) (d : Bool) (w : World) :
    Calls Try.prog 37 #[.agg #[.int .i64 k, .int .i64 who, .string q, .int .i64 m, .int .i64 c, .bool d]] w fun r w' => r = .returned (.bool (okE ⟨k, who, q, m, c, d⟩)) ∧ Below w.heap.size w w' := by
  go_enter Try.func37, Try.ntmps37
  go_wp2
  all_goals (go_ret; refine ⟨ret_bool ?_, (Below.refl _ _).alloc (Nat.le_refl _) _⟩)
  all_goals (go_light; simp_all [okE] <;> omega)

theorem isEntry_any (e : Ent) (b : Bool) (h : okE e = b) (w : World) : Calls Try.prog 37 #[e.val] w fun r w' => r = .returned (.bool b) ∧ Below w.heap.size w w' := by
  subst h
  exact isEntry_raw e.kind e.who e.msg e.count e.queue e.dur w

set_option maxRecDepth 100000 in
set_option maxHeartbeats 1000000 in
theorem may_raw (k who m c : Int) (q : ByteArray) (d : Bool) (w : World) :
    Calls Try.prog 40 #[.agg #[.int .i64 k, .int .i64 who, .string q, .int .i64 m, .int .i64 c, .bool d]] w fun r w' => r = .returned (.bool (okE ⟨k, who, q, m, c, d⟩)) ∧ Below w.heap.size w w' := by
  go_enter Try.func40, Try.ntmps40
  go_wp2
  all_goals (go_ret; refine ⟨ret_bool ?_, (Below.refl _ _).alloc (Nat.le_refl _) _⟩)
  all_goals (go_light; simp_all [okE])
  all_goals (first | omega | (split <;> omega) | (rw [Bool.eq_iff_iff]; simp; omega))

theorem may_any (e : Ent) (b : Bool) (h : okE e = b) (w : World) : Calls Try.prog 40 #[e.val] w fun r w' => r = .returned (.bool b) ∧ Below w.heap.size w w' := by
  subst h
  exact may_raw e.kind e.who e.msg e.count e.queue e.dur w

set_option maxRecDepth 100000 in
set_option maxHeartbeats 1000000 in
/-- amiss$1: no entry. -/
theorem amiss1_any (e : Ent) (b : Bool) (h : okE e = b) (w : World) : Calls Try.prog 36 #[e.val] w fun r w' => r = .returned (.bool (!b)) ∧ Below w.heap.size w w' := by
  go_enter Try.func36, Try.ntmps36
  go_wp2_with (go_at_call 37; refine (isEntry_any e b h _).mono ?_; rintro r w' ⟨rfl, hb⟩)
  go_ret
  exact ⟨rfl, ((Below.refl _ _).alloc (Nat.le_refl _) _).trans (hb.mono (by simp))⟩

end Go.Proofs.Ytgincippgaecfaa.Au
