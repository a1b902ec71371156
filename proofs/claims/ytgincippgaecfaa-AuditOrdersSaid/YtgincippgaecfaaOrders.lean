/-
  Proved: AuditOrders returns true for every address, every number and every history, and each argument reads behind the call as it read before. No condition but the given row's own.
-/
import Derived.Test.YtgincippgaecfaaRows
import Derived.Test.YtgincippgaecfaaO2
import Derived.Test.YtgincippgaecfaaA1
import Derived.Test.YtgincippgaecfaaR1
namespace Go.Proofs.Ytgincippgaecfaa.Au
open Go Go.RowKit

theorem ownsRow_below {n : Nat} {A B : World} (h : Below n A B) {base e size k : Nat} {v : Value} {xs : List Value} (ho : A.ownsRow base e size v k xs) (hv : ∀ g, v.ownBlock = some g → g < n) : B.ownsRow base e size v k xs := by
  refine ⟨ho.1, ?_⟩
  rcases ho.2 with h0 | ⟨g, cap, cur, rfl, hb, hh, r1, r2, r3, r4⟩
  · exact .inl h0
  · exact .inr ⟨g, cap, cur, rfl, hb, (h.block g (hv g rfl)).trans hh, r1, r2, r3, r4⟩

/-- What lent hands back holds the history. -/
theorem Lent.hist {w0 w' : World} {es : List Ent} {g cap : Nat} (h : w'.ownsRow w0.heap.size 55 6 (.slice (some ⟨g, 0, none⟩) (es.length + 2) cap) (es.length + 2) (cellsOf (es ++ [mark (-1), mark (-2)]))) : HistAt w'.heap.size w' (.slice (some ⟨g, 0, none⟩) es.length cap) es := by
  obtain ⟨⟨hF, _⟩, _, _, _, hg⟩ := FromAt.of_own (by simp) h
  refine .inr ⟨g, 0, cap, rfl, hg, fun i e he => ?_⟩
  rw [Nat.zero_add]
  exact hF i e (Nat.zero_le _) (by rw [List.getElem?_append_left (List.getElem?_eq_some_iff.1 he).1]; exact he)

set_option maxRecDepth 100000 in
set_option maxHeartbeats 2000000 in
theorem orders_any (sv : Value) (es : List Ent) (who : Int) (q : ByteArray) (W : World) (h : HistAt W.heap.size W sv es) (hreach : es.length * 56 ≤ 140737488351232) (hwf : ∀ e ∈ es, (Lit.int .i64 e.msg).wf = true) :
    Calls Try.prog 5 #[.string q, .int .i64 who, sv] W fun e W' => e = .returned (.bool true) ∧ Below W.heap.size W W' := by
  obtain ⟨bb, hbb⟩ : ∃ b, orderB es q.toList who = b := ⟨_, rfl⟩
  obtain ⟨ee, hee⟩ : ∃ b, orderE es who = b := ⟨_, rfl⟩
  have hL := fun (W1 : World) (hb : Below W.heap.size W W1) => lent_any W.heap.size sv es W1 hreach (h.below hb)
  have hO := fun (n : Nat) (x : Value) (W1 : World) (hx : HistAt n W1 x es) (hn : n ≤ W1.heap.size) => order_any n x es who q W1 hx hn hwf
  have hR := fun (W1 : World) (hb : Below W.heap.size W W1) => rorder_any W.heap.size sv es who q W1 (h.below hb) hb.size
  have hK := fun (B g cap : Nat) (W1 : World) (hb : Below W.heap.size W W1) (hB : W.heap.size ≤ B) => kept_any W.heap.size B g cap sv es W1 hB (by omega) (h.below hb)
  rw [hbb, hee] at hO hR
  clear hbb hee h hwf
  go_enter Try.func5, Try.ntmps5
  go_wp2_with (first
    | (go_at_call 8; refine Aw.awake.mono ?_; rintro e w1 ⟨rfl, hb1⟩)
    | (go_at_call 9; refine (hL _ hb1).mono ?_; clear hL; rintro e w2 ⟨g, cap, rfl, hown, hb2⟩
       have hx := Lent.hist hown
       have hg2 := (FromAt.of_own (by simp) hown).2.2.2.2
       obtain ⟨s2, hs2⟩ : ∃ s, s = w2.heap.size := ⟨_, rfl⟩
       rw [← hs2] at hx hg2
       obtain ⟨wx, hwx⟩ : ∃ s, s = w2 := ⟨_, rfl⟩
       rw [← hwx] at hown hx hb2 hs2
       have hbx : Below s2 wx w2 := by rw [hwx]; exact Below.refl _ _
       clear hwx)
    | (go_at_call 17; refine (hO s2 _ _ (hx.below hbx) (by rw [hs2]; exact hbx.size)).mono ?_; rintro e w3 ⟨rfl, h3⟩; replace hbx := hbx.trans (h3.mono (by rw [hs2]; exact hbx.size)); clear h3)
    | (go_at_call 11
       have hb3 := (hb1.trans (hb2.mono hb1.size)).trans (hbx.mono (by rw [hs2]; exact Nat.le_trans hb1.size hb2.size))
       refine (hK w1.heap.size g cap _ hb3 hb1.size (ownsRow_below hbx hown (fun g' e => by simp [Value.ownBlock] at e; omega))).mono ?_
       clear hK; rintro e w4 ⟨rfl, h4⟩
       have hb4 := hb3.trans (h4.mono hb1.size))
    | (go_at_call 18; refine (hR _ hb4).mono ?_; clear hR; rintro e w5 ⟨rfl, h5⟩)
    | go_in)
  go_ret
  exact ⟨rfl, hb4.trans (h5.mono hb4.size)⟩

end Go.Proofs.Ytgincippgaecfaa.Au

namespace Go.Proofs.Ytgincippgaecfaa.orders
open Go.ChangeShapes Go.WideShapes Go.ChangeAt Go.RowKit Go.ChangeMaps Go.Proofs.Ytgincippgaecfaa.Au

theorem readable : ∀ t ∈ [9, 3, 23], Try.prog.readableRec t = true ∧ t < Try.prog.types.size := by
  intro t ht
  simp only [List.mem_cons, List.not_mem_nil, or_false] at ht
  rcases ht with rfl | rfl | rfl <;> exact ⟨by kernel_rfl, of_decide_eq_true (by kernel_rfl)⟩
theorem own : ownKnob Try.prog.godebug = none := by kernel_rfl

set_option maxHeartbeats 800000 in
set_option maxRecDepth 100000 in
theorem lifted (os : Os) (started : os.Started) (H : Type) (enc : TypeId × Value → H) :
    ReturnsInHanded {} Try.checked os 5 .any (Rows.auditOrdersSpec.pre6 enc Try.prog Try.f5 Rows.auditOrdersRow.domain false) (Rows.auditOrdersSpec.post enc Try.prog Try.f5 false true false false) := by
  refine returnsInHanded_of_change_sized (C := Try.checked) own started (by kernel_rfl) Try.func5
    (ChangeSpec.witness6 (enc := enc) (C := Try.checked) false ⟨#[], #[.string ⟨#[]⟩, .int .i64 0, .slice none 0 0], []⟩ 8 (by kernel_rfl) (by kernel_rfl) (by kernel_rfl) (by kernel_rfl)) ?_
  intro W base args ds gs before hval0 hW _ hsz0 _
  have hsz : (DataW.weightsEach Try.prog (Try.f5.params.toList ++ Rows.auditOrdersSpec.plain.varTypes Try.prog) (ds ++ gs)).all (· ≤ reachBytes) = true := hsz0
  clear hsz0
  have hval : ∀ (j : Nat) t v, Try.f5.params[j]? = some t → args[j]? = some v → Value.okWide Try.prog W .any base t v := hval0
  have hW' := hW
  obtain ⟨p, q, hA0, hV, rfl, hfz, _⟩ := hW
  have hA : DataW.TrodAll enc Try.prog W 0 (fun _ => true) true Try.f5.params.toList args.toList ds p := hA0
  have hlt : ∀ x ∈ p, x.block < W.heap.size := fun x hx => hW'.lt x (List.mem_append_left _ hx)
  rw [Try.params5] at hA hval hsz
  have hargs := fun (W' : World) (hb : Below W.heap.size W W') => below_trodAll laidOut hb (ts := [9, 3, 23]) readable hA hlt
  obtain ⟨v0, v1, v2, d0, d1, d2, p0, p1, p2, rfl, rfl, rfl, h0, h1, h2⟩ := trodAll_three hA
  obtain ⟨rfl, rfl⟩ := trodVars_none hV
  obtain ⟨s, rfl, rfl, rfl, hs⟩ := open_string Try.underlying9 (hval 0 9 v0 rfl rfl) h0
  obtain ⟨n, rfl, rfl, rfl, hn⟩ := open_int Try.underlying3 (hval 1 3 v1 rfl rfl) h1
  obtain ⟨a, len, cap, rfl⟩ := okWide_slice Try.underlying23 (hval 2 23 v2 rfl rfl)
  obtain ⟨fuel, hf⟩ := h2
  obtain ⟨sv, es, hcs, hH, hfine, hx⟩ := open_hist hf
  simp [Value.cells] at hcs
  subst hcs
  have hreach : es.length * 56 ≤ 140737488351232 := by
    rcases hx with ⟨_, rfl⟩ | ⟨l, r, rfl, hl⟩
    · simp
    · have := sized_slice hsz (j := 2) (t := 23) (e := 55) rfl rfl Try.underlying23
      rw [bytes55] at this
      simp only [reachBytes] at this
      omega
  clear hA0 hval0
  simp only [List.append_nil] at hW'
  refine (orders_any _ es n s W hH hreach (fun e he => (hfine e he).1)).mono fun e W' ⟨he, hnx⟩ => ?_
  subst he
  exact ⟨_, rfl, _, _, _, [], _, [], hW', trodAll_mk1 (shut_bool Try.underlying4 _), hargs W' hnx, rfl, hnx.frame _, fun h => by cases h⟩

theorem auditOrders_holds : Rows.AuditOrdersSaid :=
  OpenClaim.holds_of_wide 5 Try.f5 rfl rfl rfl rfl rfl rfl rfl ⟨rfl, rfl, rfl, rfl, rfl⟩ rfl rfl rfl rfl rfl (by kernel_rfl) Try.func5 (by kernel_rfl)
    (of_decide_eq_true (by kernel_rfl)) (by unfold Func.isWrapper; first | (rw [if_pos (by decide +kernel)]; kernel_rfl) | (rw [if_neg (by decide +kernel)]; exact ⟨rfl, rfl⟩))
    (fun os started H enc _ => lifted os started H enc)

#print axioms auditOrders_holds
end Go.Proofs.Ytgincippgaecfaa.orders
