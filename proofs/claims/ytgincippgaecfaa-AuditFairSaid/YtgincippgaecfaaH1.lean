/-
  The reference's History: what is amiss with a history. No condition but that the slice holds it.
-/
import Derived.Test.YtgincippgaecfaaHist
namespace Go.Proofs.Ytgincippgaecfaa.Au
open Go Go.RowKit

theorem ret_int {k : IntKind} {a b : Int} (h : a = b) : Ending.returned (.int k a) = .returned (.int k b) := by rw [h]

theorem all_snoc {es : List Ent} {k : Nat} {e : Ent} (he : es[k]? = some e) (h : (es.take k).all okE = true) (ho : okE e = true) : (es.take (k + 1)).all okE = true := by
  rw [List.take_add_one, he]
  simp only [List.all_append, h, Bool.true_and]
  simp [ho]

theorem histE_long {es : List Ent} (h : 400 < es.length) : histE es = 2 := by simp [histE, h]
theorem histE_bad {es : List Ent} (h : ¬ 400 < es.length) {k : Nat} {e : Ent} (he : es[k]? = some e) (ho : okE e = false) : histE es = 270 := by
  have : es.all okE = false := by
    rw [List.all_eq_false]
    exact ⟨e, List.mem_of_getElem? he, by simp [ho]⟩
  simp [histE, h, this]
theorem histE_good {es : List Ent} (h : ¬ 400 < es.length) (ho : es.all okE = true) : histE es = 0 := by simp [histE, h, ho]

set_option maxRecDepth 100000 in
set_option maxHeartbeats 400000 in
theorem history_some (b off cap : Nat) (es : List Ent) (w : World) (hb : b < w.heap.size) (hc : ∀ i e, es[i]? = some e → EntAt w b (off + i * 6) e) :
    Calls Try.prog 22 #[.slice (some ⟨b, off, none⟩) es.length cap] w fun r w' => r = .returned (.int .i64 (histE es)) ∧ Below w.heap.size w w' := by
  by_cases hl : 400 < es.length
  · go_enter Try.func22, Try.ntmps22
    go_wp2
    go_ret
    exact ⟨ret_int (histE_long hl).symm, Below.refl _ _⟩
  · have hl' : es.length ≤ 400 := by omega
    go_enter Try.func22, Try.ntmps22
    go_wp2
    go_loopw [3] (fun i wr => ∃ k : Nat, i = .int .i64 k ∧ k ≤ es.length ∧ (es.take k).all okE = true ∧ Below w.heap.size w wr) (fun i _ => es.length - (intOf i).toNat)
    case atStart => exact ⟨0, rfl, Nat.zero_le _, by simp, Below.refl _ _⟩
    case round =>
      obtain ⟨k, rfl, hk, hall, hbw⟩ := hrel
      by_cases hlt : k < es.length
      · obtain ⟨e, he⟩ : ∃ e, es[k]? = some e := ⟨_, List.getElem?_eq_getElem hlt⟩
        obtain ⟨c0, c1, c2, c3, c4, c5⟩ := (hc k e he).below hbw hb
        have HE := Lib.hid he
        have HA := Lib.hid hall
        clear he hall hc
        cases hok : okE e with
        | true =>
          have HO := Lib.hid hok
          clear hok
          go_wp2_with (go_at_call 40; refine (may_any e true HO.out _).mono ?_; rintro r w' ⟨rfl, hb'⟩)
          go_roundw
          case rel => exact ⟨k + 1, by go_num, by omega, all_snoc HE.out HA.out HO.out, hbw.trans (hb'.mono hbw.size)⟩
          case measure => simp [intOf]; omega
        | false =>
          have HO := Lib.hid hok
          clear hok
          go_wp2_with (go_at_call 40; refine (may_any e false HO.out _).mono ?_; rintro r w' ⟨rfl, hb'⟩)
          go_ret
          exact ⟨ret_int (histE_bad hl HE.out HO.out).symm, hbw.trans (hb'.mono hbw.size)⟩
      · obtain rfl : k = es.length := by omega
        go_wp2
        go_ret
        exact ⟨ret_int (histE_good hl (by rwa [List.take_length] at hall)).symm, hbw⟩

set_option maxHeartbeats 400000 in
theorem history_nil (p : Option Addr) (c : Nat) (w : World) : Calls Try.prog 22 #[.slice p 0 c] w fun r w' => r = .returned (.int .i64 (histE [])) ∧ Below w.heap.size w w' := by
  go_enter Try.func22, Try.ntmps22
  go_wp2
  refine wp_loop_rounds 1 ?_
  rw [rounds_succ]
  go_wp2
  go_ret
  exact ⟨rfl, Below.refl _ _⟩

theorem history_any (n : Nat) (sv : Value) (es : List Ent) (w : World) (h : HistAt n w sv es) (hn : n ≤ w.heap.size) :
    Calls Try.prog 22 #[sv] w fun r w' => r = .returned (.int .i64 (histE es)) ∧ Below w.heap.size w w' := by
  rcases h with ⟨p, c, rfl, rfl⟩ | ⟨b, off, cap, rfl, hb, hc⟩
  · exact history_nil p c w
  · exact history_some b off cap es w (by omega) hc

end Go.Proofs.Ytgincippgaecfaa.Au
