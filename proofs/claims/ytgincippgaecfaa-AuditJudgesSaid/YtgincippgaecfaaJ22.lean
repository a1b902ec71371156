/-
  The program's Judge at any history. No condition but the sizes.
-/
import Derived.Test.YtgincippgaecfaaR2
namespace Go.Proofs.Ytgincippgaecfaa.Au
open Go Go.RowKit

theorem histE_all {es : List Ent} (h : histE es = 0) : ∀ e ∈ es, okE e = true := by
  unfold histE at h
  split at h
  · cases h
  · split at h
    · rename_i h2; exact List.all_eq_true.1 h2
    · cases h

set_option maxRecDepth 100000 in
set_option maxHeartbeats 1000000 in
/-- The program's Judge (no condition but the sizes). -/
theorem pjudge_any (n : Nat) (sv hv : Value) (qs : List Qc) (es : List Ent) (w : World) (hq : qs.length * 56 ≤ 140737488351232) (hs : QsAt n w sv qs) (h : HistAt n w hv es) (hn : n ≤ w.heap.size) (hw : ∀ e ∈ es, e.fineQ) (hz : ∀ c ∈ qs, c.fine) :
    Calls Try.prog 10 #[sv, hv] w fun r w' => r = .returned (judgeAns qs es) ∧ Below w.heap.size w w' := by
  obtain ⟨a, cap, rfl⟩ := hs.len
  obtain ⟨a2, cap2, rfl⟩ := h.len
  by_cases hh : histE es = 0
  · rw [judgeAns_good hh]
    exact pjudge_good n a a2 cap cap2 qs es w hq hs h hn hh (fun e he => ⟨histE_all hh e he, (hw e he).1, (hw e he).2.1, (hw e he).2.2.2.1, (hw e he).2.2.2.2⟩) hz
  · rw [judgeAns_bad hh]
    have hh' := amiss_any n _ es w h hn
    obtain ⟨x, hx⟩ : ∃ x, histE es = x := ⟨_, rfl⟩
    rw [hx] at hh' hh ⊢
    have hx2 : (x != 0) = true := by simpa using hh
    clear hs h hx hw hz
    go_enter Try.func10, Try.ntmps10
    go_wp2_with (first
      | (go_at_call 20; refine hh'.mono ?_; clear hh'; rintro r w1 ⟨rfl, hb1⟩)
      | go_in)
    go_ret3
    exact ⟨rfl, hb1⟩

end Go.Proofs.Ytgincippgaecfaa.Au
