/-
  The program's amiss: slices.IndexFunc, ContainsFunc over amiss$1. No condition but that the slice holds the history.
-/
import Derived.Test.YtgincippgaecfaaH1
namespace Go.Proofs.Ytgincippgaecfaa.Au
open Go Go.RowKit

/-- The place of the first entry that may not be; -1. -/
def badAt (es : List Ent) : Int := match es.findIdx? (fun e => !okE e) with | some i => (i : Int) | none => -1

theorem badAt_some {es : List Ent} {k : Nat} {e : Ent} (hall : (es.take k).all okE = true) (he : es[k]? = some e) (ho : okE e = false) : badAt es = k := by
  have : es.findIdx? (fun e => !okE e) = some k := by
    rw [List.findIdx?_eq_some_iff_getElem]
    obtain ⟨hk, rfl⟩ := List.getElem?_eq_some_iff.1 he
    refine ⟨hk, by simp [ho], fun j hj => ?_⟩
    rw [List.all_eq_true] at hall
    have := hall es[j] (by rw [List.mem_take_iff_getElem]; exact ⟨j, by omega, rfl⟩)
    simp [this]
  simp [badAt, this]
theorem badAt_none {es : List Ent} (h : es.all okE = true) : badAt es = -1 := by
  have : es.findIdx? (fun e => !okE e) = none := by
    rw [List.findIdx?_eq_none_iff]
    intro e he
    rw [List.all_eq_true] at h
    simp [h e he]
  simp [badAt, this]

set_option maxRecDepth 100000 in
set_option maxHeartbeats 400000 in
theorem indexF_some (b off cap : Nat) (es : List Ent) (w : World) (hl : es.length ≤ 400) (hb : b < w.heap.size) (hc : ∀ i e, es[i]? = some e → EntAt w b (off + i * 6) e) :
    Calls Try.prog 52 #[.slice (some ⟨b, off, none⟩) es.length cap, .func (.func 36) #[] #[]] w fun r w' => r = .returned (.int .i64 (badAt es)) ∧ Below w.heap.size w w' := by
  go_enter Try.func52, Try.ntmps52
  go_wp2
  go_loopw [8] (fun i wr => ∃ k : Nat, i = .int .i64 k ∧ k ≤ es.length ∧ (es.take k).all okE = true ∧ Below w.heap.size w wr) (fun i _ => es.length - (intOf i).toNat)
  case atStart => exact ⟨0, rfl, Nat.zero_le _, by simp, Below.refl _ _⟩
  case round =>
    obtain ⟨k, rfl, hk, hall, hbw⟩ := hrel
    by_cases hlt : k < es.length
    · obtain ⟨e, he⟩ : ∃ e, es[k]? = some e := ⟨_, List.getElem?_eq_getElem hlt⟩
      obtain ⟨c0, c1, c2, c3, c4, c5⟩ := (hc k e he).below hbw hb
      have HE := Lib.hid he
      have HA := Lib.hid hall
      clear he hall hc
      cases hok : okE e with
      | true =>
        have HO := Lib.hid hok
        clear hok
        go_wp2_with (go_at_call 36; refine (amiss1_any e true HO.out _).mono ?_; rintro r w' ⟨rfl, hb'⟩)
        go_roundw
        case rel => exact ⟨k + 1, by go_num, by omega, all_snoc HE.out HA.out HO.out, hbw.trans (hb'.mono hbw.size)⟩
        case measure => simp [intOf]; omega
      | false =>
        have HO := Lib.hid hok
        clear hok
        go_wp2_with (go_at_call 36; refine (amiss1_any e false HO.out _).mono ?_; rintro r w' ⟨rfl, hb'⟩)
        go_ret
        exact ⟨ret_int (badAt_some HA.out HE.out HO.out).symm, hbw.trans (hb'.mono hbw.size)⟩
    · obtain rfl : k = es.length := by omega
      go_wp2
      go_ret
      exact ⟨ret_int (badAt_none (by rwa [List.take_length] at hall)).symm, hbw⟩

set_option maxHeartbeats 400000 in
theorem indexF_nil (p : Option Addr) (c : Nat) (w : World) : Calls Try.prog 52 #[.slice p 0 c, .func (.func 36) #[] #[]] w fun r w' => r = .returned (.int .i64 (badAt [])) ∧ Below w.heap.size w w' := by
  go_enter Try.func52, Try.ntmps52
  go_wp2
  refine wp_loop_rounds 1 ?_
  rw [rounds_succ]
  go_wp2
  go_ret
  exact ⟨rfl, Below.refl _ _⟩

theorem indexF_any (n : Nat) (sv : Value) (es : List Ent) (w : World) (hl : es.length ≤ 400) (h : HistAt n w sv es) (hn : n ≤ w.heap.size) :
    Calls Try.prog 52 #[sv, .func (.func 36) #[] #[]] w fun r w' => r = .returned (.int .i64 (badAt es)) ∧ Below w.heap.size w w' := by
  rcases h with ⟨p, c, rfl, rfl⟩ | ⟨b, off, cap, rfl, hb, hc⟩
  · exact indexF_nil p c w
  · exact indexF_some b off cap es w hl (by omega) hc

theorem badAt_bool (es : List Ent) : decide (0 ≤ badAt es) = !es.all okE := by
  unfold badAt
  cases h : es.findIdx? (fun e => !okE e) with
  | none =>
    rw [List.findIdx?_eq_none_iff] at h
    have : es.all okE = true := by
      rw [List.all_eq_true]
      intro e he
      simpa using h e he
    simp [this]
  | some i =>
    rw [List.findIdx?_eq_some_iff_getElem] at h
    obtain ⟨hi, hp, _⟩ := h
    have : es.all okE = false := by
      rw [List.all_eq_false]
      exact ⟨es[i], List.getElem_mem hi, by simpa using hp⟩
    simp [this]

set_option maxHeartbeats 400000 in
theorem contains_any (n : Nat) (sv : Value) (es : List Ent) (w : World) (hl : es.length ≤ 400) (h : HistAt n w sv es) (hn : n ≤ w.heap.size) (b : Bool) (hb : es.all okE = b) :
    Calls Try.prog 35 #[sv, .func (.func 36) #[] #[]] w fun r w' => r = .returned (.bool (!b)) ∧ Below w.heap.size w w' := by
  subst hb
  have hB := badAt_bool es
  have HB := Lib.hid hB
  clear hB
  go_enter Try.func35, Try.ntmps35
  go_wp2_with (go_at_call 52; refine (indexF_any n sv es _ hl h hn).mono ?_; rintro r w' ⟨rfl, hb'⟩)
  go_ret
  exact ⟨ret_bool HB.out, hb'⟩

theorem HistAt.len {n : Nat} {w : World} {sv : Value} {es : List Ent} (h : HistAt n w sv es) : ∃ a cap, sv = .slice a es.length cap := by
  rcases h with ⟨p, c, rfl, rfl⟩ | ⟨b, off, cap, rfl, _, _⟩
  · exact ⟨_, _, rfl⟩
  · exact ⟨_, _, rfl⟩

set_option maxHeartbeats 400000 in
theorem amiss_any (n : Nat) (sv : Value) (es : List Ent) (w : World) (h : HistAt n w sv es) (hn : n ≤ w.heap.size) :
    Calls Try.prog 20 #[sv] w fun r w' => r = .returned (.int .i64 (histE es)) ∧ Below w.heap.size w w' := by
  obtain ⟨a, cap, rfl⟩ := h.len
  by_cases hl : 400 < es.length
  · have H := Lib.hid (histE_long hl)
    go_enter Try.func20, Try.ntmps20
    go_wp2
    go_ret
    exact ⟨ret_int H.out.symm, Below.refl _ _⟩
  · have hl' : es.length ≤ 400 := by omega
    cases hb : es.all okE with
    | true =>
      have H := Lib.hid (histE_good hl hb)
      have HB := Lib.hid hb
      clear hb
      go_enter Try.func20, Try.ntmps20
      go_wp2_with (go_at_call 35; refine (contains_any n _ es _ hl' h hn true HB.out).mono ?_; rintro r w' ⟨rfl, hb'⟩)
      go_ret
      exact ⟨ret_int H.out.symm, hb'⟩
    | false =>
      have H : Hid (histE es = 270) := by
        unfold Hid; simp [histE, hl, hb]
      have HB := Lib.hid hb
      clear hb
      go_enter Try.func20, Try.ntmps20
      go_wp2_with (go_at_call 35; refine (contains_any n _ es _ hl' h hn false HB.out).mono ?_; rintro r w' ⟨rfl, hb'⟩)
      go_ret
      exact ⟨ret_int H.out.symm, hb'⟩

end Go.Proofs.Ytgincippgaecfaa.Au
