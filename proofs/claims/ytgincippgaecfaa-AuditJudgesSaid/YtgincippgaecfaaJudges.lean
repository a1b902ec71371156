/-
  Proved: AuditJudges returns true for all configurations and every two histories, and each argument reads behind the call as it read before. No condition but the given row's own.
-/
import Derived.Test.YtgincippgaecfaaRows
import Derived.Test.YtgincippgaecfaaJ24
namespace Go.Proofs.Ytgincippgaecfaa.judges
open Go Go.ChangeShapes Go.WideShapes Go.ChangeAt Go.RowKit Go.ChangeMaps Go.Proofs.Ytgincippgaecfaa.Au

theorem readable : ∀ t ∈ [22, 23, 23], Try.prog.readableRec t = true ∧ t < Try.prog.types.size := by
  intro t ht
  simp only [List.mem_cons, List.not_mem_nil, or_false] at ht
  rcases ht with rfl | rfl | rfl <;> exact ⟨by kernel_rfl, of_decide_eq_true (by kernel_rfl)⟩
theorem own : ownKnob Try.prog.godebug = none := by kernel_rfl

set_option maxHeartbeats 800000 in
set_option maxRecDepth 100000 in
theorem lifted (os : Os) (started : os.Started) (H : Type) (enc : TypeId × Value → H) :
    ReturnsInHanded {} Try.checked os 3 .any (Rows.auditJudgesSpec.pre6 enc Try.prog Try.f3 Rows.auditJudgesRow.domain false) (Rows.auditJudgesSpec.post enc Try.prog Try.f3 false true false false) := by
  refine returnsInHanded_of_change_sized (C := Try.checked) own started (by kernel_rfl) Try.func3
    (ChangeSpec.witness6 (enc := enc) (C := Try.checked) false ⟨#[], #[.slice none 0 0, .slice none 0 0, .slice none 0 0], []⟩ 8 (by kernel_rfl) (by kernel_rfl) (by kernel_rfl) (by kernel_rfl)) ?_
  intro W base args ds gs before hval0 hW _ hsz0 _
  have hsz : (DataW.weightsEach Try.prog (Try.f3.params.toList ++ Rows.auditJudgesSpec.plain.varTypes Try.prog) (ds ++ gs)).all (· ≤ reachBytes) = true := hsz0
  clear hsz0
  have hval : ∀ (j : Nat) t v, Try.f3.params[j]? = some t → args[j]? = some v → Value.okWide Try.prog W .any base t v := hval0
  have hW' := hW
  obtain ⟨p, q, hA0, hV, rfl, hfz, _⟩ := hW
  have hA : DataW.TrodAll enc Try.prog W 0 (fun _ => true) true Try.f3.params.toList args.toList ds p := hA0
  have hlt : ∀ x ∈ p, x.block < W.heap.size := fun x hx => hW'.lt x (List.mem_append_left _ hx)
  rw [Try.params3] at hA hval hsz
  have hargs := fun (W' : World) (hb : Below W.heap.size W W') => below_trodAll laidOut hb (ts := [22, 23, 23]) readable hA hlt
  obtain ⟨v0, v1, v2, d0, d1, d2, p0, p1, p2, rfl, rfl, rfl, h0, h1, h2⟩ := trodAll_three hA
  obtain ⟨rfl, rfl⟩ := trodVars_none hV
  obtain ⟨a0, len0, cap0, rfl⟩ := okWide_slice Try.underlying22 (hval 0 22 v0 rfl rfl)
  obtain ⟨a1, len1, cap1, rfl⟩ := okWide_slice Try.underlying23 (hval 1 23 v1 rfl rfl)
  obtain ⟨a2, len2, cap2, rfl⟩ := okWide_slice Try.underlying23 (hval 2 23 v2 rfl rfl)
  obtain ⟨fuel0, hf0⟩ := h0
  obtain ⟨fuel1, hf1⟩ := h1
  obtain ⟨fuel2, hf2⟩ := h2
  obtain ⟨sq, qs, hcs0, hQ, hqfine, _, hx0⟩ := open_configs hf0
  obtain ⟨sv, es, hcs, hH, hfine, _, hx⟩ := open_histQ hf1
  obtain ⟨so, eo, hcs2, hH2, hfine2, _, _⟩ := open_histQ hf2
  simp [Value.cells] at hcs0 hcs hcs2
  subst hcs0 hcs hcs2
  have hreach : es.length * 56 ≤ 140737488351232 := by
    rcases hx with ⟨_, rfl⟩ | ⟨l, r, rfl, hl⟩
    · simp
    · have := sized_slice hsz (j := 1) (t := 23) (e := 55) rfl rfl Try.underlying23
      rw [bytes55] at this
      simp only [reachBytes] at this
      omega
  have hreachq : qs.length * 56 ≤ 140737488351232 := by
    rcases hx0 with ⟨_, rfl⟩ | ⟨l, r, rfl, hl⟩
    · simp
    · have := sized_slice hsz (j := 0) (t := 22) (e := 27) rfl rfl Try.underlying22
      rw [bytes27] at this
      simp only [reachBytes] at this
      omega
  clear hA0 hval0
  simp only [List.append_nil] at hW'
  obtain ⟨aq, capq, hql⟩ := hQ.len
  simp only [Value.slice.injEq] at hql
  obtain ⟨rfl, rfl, rfl⟩ := hql
  refine (judges_any _ _ _ _ qs es eo W hQ hH hH2 hreachq hreach hfine hfine2 hqfine).mono fun e W' ⟨he, hnx⟩ => ?_
  subst he
  exact ⟨_, rfl, _, _, _, [], _, [], hW', trodAll_mk1 (shut_bool Try.underlying4 _), hargs W' hnx, rfl, hnx.frame _, fun h => by cases h⟩

theorem auditJudges_holds : Rows.AuditJudgesSaid :=
  OpenClaim.holds_of_wide 3 Try.f3 rfl rfl rfl rfl rfl rfl rfl ⟨rfl, rfl, rfl, rfl, rfl⟩ rfl rfl rfl rfl rfl (by kernel_rfl) Try.func3 (by kernel_rfl)
    (of_decide_eq_true (by kernel_rfl)) (by unfold Func.isWrapper; first | (rw [if_pos (by decide +kernel)]; kernel_rfl) | (rw [if_neg (by decide +kernel)]; exact ⟨rfl, rfl⟩))
    (fun os started H enc _ => lifted os started H enc)

#print axioms auditJudges_holds
end Go.Proofs.Ytgincippgaecfaa.judges
