/-
  Proved: AuditBegins returns true for all configurations, every history, every address and every number, and each argument reads behind the call as it read before. No condition but the given row's own.
-/
import Derived.Test.YtgincippgaecfaaRows
import Derived.Test.YtgincippgaecfaaBGb
import Derived.Test.YtgincippgaecfaaBGc
namespace Go.Proofs.Ytgincippgaecfaa.Au
open Go Go.RowKit

/-- The law of beginnings (no condition but the sizes). -/
theorem begins_law_any (sq : Value) (a : Option Addr) (cap : Nat) (qs : List Qc) (es : List Ent) (q : ByteArray) (cut : Int) (W : World) (hQ : QsAt W.heap.size W sq qs) (h : HistAt W.heap.size W (.slice a es.length cap) es) (hcap : es.length ≤ cap) (hq : qs.length * 56 ≤ 140737488351232)
    (hw : ∀ e ∈ es, e.fineQ) (hz : ∀ c ∈ qs, c.fine) :
    Calls Try.prog 6 #[sq, .slice a es.length cap, .string q, .int .i64 cut] W fun e W' => e = .returned (.bool true) ∧ Below W.heap.size W W' := by
  by_cases hh : histE es = 0
  · by_cases hneg : cut < 0
    · have hc2 : (es.length : Int) / 2 = ((es.length / 2 : Nat) : Int) := by omega
      have hc : es.length / 2 ≤ es.length := by omega
      rcases begins_law qs es (es.length / 2) hc with ⟨h1, h2⟩ | ⟨i, v, h1, hi, hv1, hv6, ⟨hci, h2⟩ | ⟨hci, h2⟩⟩
      · exact begins_a_neg sq a cap qs es q _ cut W hQ h hcap hq hw hz hh hneg hc2 hc h1 h2
      · exact begins_b_neg sq a cap qs es q _ cut i v W hQ h hcap hq hw hz hh hi hv1 hv6 hci hneg hc2 hc h1 h2
      · exact begins_c_neg sq a cap qs es q _ cut i v W hQ h hcap hq hw hz hh hi hv1 hv6 hci hneg hc2 hc h1 h2
    · by_cases hab : (es.length : Int) < cut
      · have hc2 : (es.length : Int) / 2 = ((es.length / 2 : Nat) : Int) := by omega
        have hc : es.length / 2 ≤ es.length := by omega
        rcases begins_law qs es (es.length / 2) hc with ⟨h1, h2⟩ | ⟨i, v, h1, hi, hv1, hv6, ⟨hci, h2⟩ | ⟨hci, h2⟩⟩
        · exact begins_a_abv sq a cap qs es q _ cut W hQ h hcap hq hw hz hh hneg hab hc2 hc h1 h2
        · exact begins_b_abv sq a cap qs es q _ cut i v W hQ h hcap hq hw hz hh hi hv1 hv6 hci hneg hab hc2 hc h1 h2
        · exact begins_c_abv sq a cap qs es q _ cut i v W hQ h hcap hq hw hz hh hi hv1 hv6 hci hneg hab hc2 hc h1 h2
      · obtain ⟨c, rfl⟩ : ∃ c : Nat, cut = c := ⟨cut.toNat, by omega⟩
        have hc : c ≤ es.length := by omega
        rcases begins_law qs es c hc with ⟨h1, h2⟩ | ⟨i, v, h1, hi, hv1, hv6, ⟨hci, h2⟩ | ⟨hci, h2⟩⟩
        · exact begins_a_in sq a cap qs es q c W hQ h hcap hq hw hz hh hc h1 h2
        · exact begins_b_in sq a cap qs es q c i v W hQ h hcap hq hw hz hh hi hv1 hv6 hci hc h1 h2
        · exact begins_c_in sq a cap qs es q c i v W hQ h hcap hq hw hz hh hi hv1 hv6 hci hc h1 h2
  · exact begins_bad sq a cap qs es q cut W hQ h hq hw hz hh

end Go.Proofs.Ytgincippgaecfaa.Au

namespace Go.Proofs.Ytgincippgaecfaa.begins
open Go Go.ChangeShapes Go.WideShapes Go.ChangeAt Go.RowKit Go.ChangeMaps Go.Proofs.Ytgincippgaecfaa.Au

theorem readable : ∀ t ∈ [22, 23, 9, 3], Try.prog.readableRec t = true ∧ t < Try.prog.types.size := by
  intro t ht
  simp only [List.mem_cons, List.not_mem_nil, or_false] at ht
  rcases ht with rfl | rfl | rfl | rfl <;> exact ⟨by kernel_rfl, of_decide_eq_true (by kernel_rfl)⟩
theorem own : ownKnob Try.prog.godebug = none := by kernel_rfl

set_option maxHeartbeats 800000 in
set_option maxRecDepth 100000 in
theorem lifted (os : Os) (started : os.Started) (H : Type) (enc : TypeId × Value → H) :
    ReturnsInHanded {} Try.checked os 6 .any (Rows.auditBeginsSpec.pre6 enc Try.prog Try.f6 Rows.auditBeginsRow.domain false) (Rows.auditBeginsSpec.post enc Try.prog Try.f6 false true false false) := by
  refine returnsInHanded_of_change_sized (C := Try.checked) own started (by kernel_rfl) Try.func6
    (ChangeSpec.witness6 (enc := enc) (C := Try.checked) false ⟨#[], #[.slice none 0 0, .slice none 0 0, .string ⟨#[]⟩, .int .i64 0], []⟩ 8 (by kernel_rfl) (by kernel_rfl) (by kernel_rfl) (by kernel_rfl)) ?_
  intro W base args ds gs before hval0 hW _ hsz0 _
  have hsz : (DataW.weightsEach Try.prog (Try.f6.params.toList ++ Rows.auditBeginsSpec.plain.varTypes Try.prog) (ds ++ gs)).all (· ≤ reachBytes) = true := hsz0
  clear hsz0
  have hval : ∀ (j : Nat) t v, Try.f6.params[j]? = some t → args[j]? = some v → Value.okWide Try.prog W .any base t v := hval0
  have hW' := hW
  obtain ⟨p, q, hA0, hV, rfl, hfz, _⟩ := hW
  have hA : DataW.TrodAll enc Try.prog W 0 (fun _ => true) true Try.f6.params.toList args.toList ds p := hA0
  have hlt : ∀ x ∈ p, x.block < W.heap.size := fun x hx => hW'.lt x (List.mem_append_left _ hx)
  rw [Try.params6] at hA hval hsz
  have hargs := fun (W' : World) (hb : Below W.heap.size W W') => below_trodAll laidOut hb (ts := [22, 23, 9, 3]) readable hA hlt
  obtain ⟨v0, v1, v2, v3, d0, d1, d2, d3, p0, p1, p2, p3, rfl, rfl, rfl, h0, h1, h2, h3⟩ := trodAll_four hA
  obtain ⟨rfl, rfl⟩ := trodVars_none hV
  obtain ⟨a0, len0, cap0, rfl⟩ := okWide_slice Try.underlying22 (hval 0 22 v0 rfl rfl)
  obtain ⟨a1, len1, cap1, rfl⟩ := okWide_slice Try.underlying23 (hval 1 23 v1 rfl rfl)
  obtain ⟨s, rfl, rfl, rfl, hs⟩ := open_string Try.underlying9 (hval 2 9 v2 rfl rfl) h2
  obtain ⟨n, rfl, rfl, rfl, hn⟩ := open_int Try.underlying3 (hval 3 3 v3 rfl rfl) h3
  obtain ⟨fuel0, hf0⟩ := h0
  obtain ⟨fuel1, hf1⟩ := h1
  obtain ⟨sq, qs, hcs0, hQ, hqfine, _, hx0⟩ := open_configs hf0
  obtain ⟨sv, es, hcs, hH, hfine, hcap, hx⟩ := open_histQ hf1
  simp [Value.cells] at hcs0 hcs
  subst hcs0 hcs
  have hreachq : qs.length * 56 ≤ 140737488351232 := by
    rcases hx0 with ⟨_, rfl⟩ | ⟨l, r, rfl, hl⟩
    · simp
    · have := sized_slice hsz (j := 0) (t := 22) (e := 27) rfl rfl Try.underlying22
      rw [bytes27] at this
      simp only [reachBytes] at this
      omega
  clear hA0 hval0
  simp only [List.append_nil] at hW'
  obtain ⟨aq, capq, hql⟩ := hH.len
  simp only [Value.slice.injEq] at hql
  obtain ⟨rfl, rfl, rfl⟩ := hql
  refine (begins_law_any _ _ _ qs es s n W hQ hH (hcap _ _ rfl) hreachq hfine hqfine).mono fun e W' ⟨he, hnx⟩ => ?_
  subst he
  exact ⟨_, rfl, _, _, _, [], _, [], hW', trodAll_mk1 (shut_bool Try.underlying4 _), hargs W' hnx, rfl, hnx.frame _, fun h => by cases h⟩

theorem auditBegins_holds : Rows.AuditBeginsSaid :=
  OpenClaim.holds_of_wide 6 Try.f6 rfl rfl rfl rfl rfl rfl rfl ⟨rfl, rfl, rfl, rfl, rfl⟩ rfl rfl rfl rfl rfl (by kernel_rfl) Try.func6 (by kernel_rfl)
    (of_decide_eq_true (by kernel_rfl)) (by unfold Func.isWrapper; first | (rw [if_pos (by decide +kernel)]; kernel_rfl) | (rw [if_neg (by decide +kernel)]; exact ⟨rfl, rfl⟩))
    (fun os started H enc _ => lifted os started H enc)

#print axioms auditBegins_holds
end Go.Proofs.Ytgincippgaecfaa.begins
