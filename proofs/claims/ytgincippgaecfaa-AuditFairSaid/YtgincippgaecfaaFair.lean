/-
  Proved: AuditFair returns true for all turns, and the argument reads behind the call as it read before. No condition but the given row's own.
-/
import Derived.Test.YtgincippgaecfaaRows
import Derived.Test.YtgincippgaecfaaYC
namespace Go.Proofs.Ytgincippgaecfaa.fair
open Go Go.ChangeShapes Go.WideShapes Go.ChangeAt Go.RowKit Go.ChangeMaps Go.Proofs.Ytgincippgaecfaa.Au

theorem readable : ∀ t ∈ [44], Try.prog.readableRec t = true ∧ t < Try.prog.types.size := by
  intro t ht
  simp only [List.mem_cons, List.not_mem_nil, or_false] at ht
  rcases ht with rfl
  exact ⟨by kernel_rfl, of_decide_eq_true (by kernel_rfl)⟩
theorem own : ownKnob Try.prog.godebug = none := by kernel_rfl

set_option maxHeartbeats 800000 in
set_option maxRecDepth 100000 in
theorem lifted (os : Os) (started : os.Started) (H : Type) (enc : TypeId × Value → H) :
    ReturnsInHanded {} Try.checked os 7 .any (Rows.auditFairSpec.pre6 enc Try.prog Try.f7 Rows.auditFairRow.domain false) (Rows.auditFairSpec.post enc Try.prog Try.f7 false true false false) := by
  refine returnsInHanded_of_change_sized (C := Try.checked) own started (by kernel_rfl) Try.func7
    (ChangeSpec.witness6 (enc := enc) (C := Try.checked) false ⟨#[], #[.slice none 0 0], []⟩ 8 (by kernel_rfl) (by kernel_rfl) (by kernel_rfl) (by kernel_rfl)) ?_
  intro W base args ds gs before hval0 hW _ hsz0 _
  have hsz : (DataW.weightsEach Try.prog (Try.f7.params.toList ++ Rows.auditFairSpec.plain.varTypes Try.prog) (ds ++ gs)).all (· ≤ reachBytes) = true := hsz0
  clear hsz0
  have hval : ∀ (j : Nat) t v, Try.f7.params[j]? = some t → args[j]? = some v → Value.okWide Try.prog W .any base t v := hval0
  have hW' := hW
  obtain ⟨p, q, hA0, hV, rfl, hfz, _⟩ := hW
  have hA : DataW.TrodAll enc Try.prog W 0 (fun _ => true) true Try.f7.params.toList args.toList ds p := hA0
  have hlt : ∀ x ∈ p, x.block < W.heap.size := fun x hx => hW'.lt x (List.mem_append_left _ hx)
  rw [Try.params7] at hA hval hsz
  have hargs := fun (W' : World) (hb : Below W.heap.size W W') => below_trodAll laidOut hb (ts := [44]) readable hA hlt
  obtain ⟨v0, d0, rfl, rfl, h0⟩ := trodAll_one hA
  obtain ⟨rfl, rfl⟩ := trodVars_none hV
  obtain ⟨a0, len0, cap0, rfl⟩ := okWide_slice Try.underlying44 (hval 0 44 v0 rfl rfl)
  obtain ⟨fuel0, hf0⟩ := h0
  obtain ⟨sv, ts, hcs0, hT, hfine, _, hx0⟩ := open_turns hf0
  simp [Value.cells] at hcs0
  subst hcs0
  have hreach : ts.length * 32 ≤ 140737488351232 := by
    rcases hx0 with ⟨_, rfl⟩ | ⟨l, r, rfl, hl⟩
    · simp
    · have := sized_slice hsz (j := 0) (t := 44) (e := 51) rfl rfl Try.underlying44
      rw [bytes51] at this
      simp only [reachBytes] at this
      omega
  clear hA0 hval0
  simp only [List.append_nil] at hW'
  obtain ⟨aq, capq, hql⟩ := hT.len
  simp only [Value.slice.injEq] at hql
  obtain ⟨rfl, rfl, rfl⟩ := hql
  refine (fair_any _ _ ts W hT hreach hfine).mono fun e W' ⟨he, hnx⟩ => ?_
  subst he
  exact ⟨_, rfl, _, _, _, [], _, [], hW', trodAll_mk1 (shut_bool Try.underlying4 _), hargs W' hnx, rfl, hnx.frame _, fun h => by cases h⟩

theorem auditFair_holds : Rows.AuditFairSaid :=
  OpenClaim.holds_of_wide 7 Try.f7 rfl rfl rfl rfl rfl rfl rfl ⟨rfl, rfl, rfl, rfl, rfl⟩ rfl rfl rfl rfl rfl (by kernel_rfl) Try.func7 (by kernel_rfl)
    (of_decide_eq_true (by kernel_rfl)) (by unfold Func.isWrapper; first | (rw [if_pos (by decide +kernel)]; kernel_rfl) | (rw [if_neg (by decide +kernel)]; exact ⟨rfl, rfl⟩))
    (fun os started H enc _ => lifted os started H enc)

#print axioms auditFair_holds
end Go.Proofs.Ytgincippgaecfaa.fair
