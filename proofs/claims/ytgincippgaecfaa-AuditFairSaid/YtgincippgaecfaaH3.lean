/-
  The reference's first: the first place of an entry of a kind, an address, a message and somebody. No condition but that the slice holds the history, and the reach.
-/
import Derived.Test.YtgincippgaecfaaH2
namespace Go.Proofs.Ytgincippgaecfaa.Au
open Go Go.RowKit

/-- Does first look for it? -/
def isF (kind : Int) (q : List UInt8) (m who : Int) (e : Ent) : Bool := decide (e.kind = kind) && decide (e.queue.toList = q) && decide (e.msg = m) && (decide (who = 0) || decide (e.who = who))

def firstI (p : Ent → Bool) (es : List Ent) : Int := match es.findIdx? p with | some i => (i : Int) | none => -1

theorem firstI_some {p : Ent → Bool} {es : List Ent} {k : Nat} {e : Ent} (hall : (es.take k).all (fun e => !p e) = true) (he : es[k]? = some e) (ho : p e = true) : firstI p es = k := by
  have : es.findIdx? p = some k := by
    rw [List.findIdx?_eq_some_iff_getElem]
    obtain ⟨hk, rfl⟩ := List.getElem?_eq_some_iff.1 he
    refine ⟨hk, by simp [ho], fun j hj => ?_⟩
    rw [List.all_eq_true] at hall
    have := hall es[j] (by rw [List.mem_take_iff_getElem]; exact ⟨j, by omega, rfl⟩)
    simpa using this
  simp [firstI, this]
theorem firstI_none {p : Ent → Bool} {es : List Ent} (h : es.all (fun e => !p e) = true) : firstI p es = -1 := by
  have : es.findIdx? p = none := by
    rw [List.findIdx?_eq_none_iff]
    intro e he
    rw [List.all_eq_true] at h
    simpa using h e he
  simp [firstI, this]
theorem none_snoc {p : Ent → Bool} {es : List Ent} {k : Nat} {e : Ent} (he : es[k]? = some e) (h : (es.take k).all (fun e => !p e) = true) (ho : p e = false) : (es.take (k + 1)).all (fun e => !p e) = true := by
  rw [List.take_add_one, he]
  simp only [List.all_append, h, Bool.true_and]
  simp [ho]

set_option maxRecDepth 100000 in
set_option maxHeartbeats 1000000 in
theorem first_some (b off cap : Nat) (es : List Ent) (kind m who : Int) (q : ByteArray) (w : World) (hlen : es.length ≤ 9000000000000000) (hc : ∀ i e, es[i]? = some e → EntAt w b (off + i * 6) e) :
    Calls Try.prog 32 #[.slice (some ⟨b, off, none⟩) es.length cap, .int .i64 kind, .string q, .int .i64 m, .int .i64 who] w fun r w' => r = .returned (.int .i64 (firstI (isF kind q.toList m who) es)) ∧ w = w' := by
  go_enter Try.func32, Try.ntmps32
  go_wp2
  go_loop [11] (fun i => ∃ k : Nat, i = .int .i64 k ∧ k ≤ es.length ∧ (es.take k).all (fun e => !isF kind q.toList m who e) = true) (fun i => es.length - (intOf i).toNat)
  case atStart => exact ⟨0, rfl, Nat.zero_le _, by simp⟩
  case round =>
    obtain ⟨k, rfl, hk, hall⟩ := hrel
    by_cases hlt : k < es.length
    · obtain ⟨e, he⟩ : ∃ e, es[k]? = some e := ⟨_, List.getElem?_eq_getElem hlt⟩
      obtain ⟨c0, c1, c2, c3, c4, c5⟩ := hc k e he
      have HE := Lib.hid he
      have HA := Lib.hid hall
      clear he hall hc
      go_wp2
      · go_ret
        obtain rfl : who = 0 := by assumption
        exact ⟨ret_int (firstI_some HA.out HE.out (by clear HA HE; go_light; simp_all [isF])).symm, rfl⟩
      · go_ret
        exact ⟨ret_int (firstI_some HA.out HE.out (by clear HA HE; go_light; simp_all [isF])).symm, rfl⟩
      all_goals
        go_round
        case rel => exact ⟨k + 1, by go_num, by omega, none_snoc HE.out HA.out (by clear HA HE; go_light; simp_all [isF])⟩
        case measure => simp [intOf]; omega
    · obtain rfl : k = es.length := by omega
      go_wp2
      go_ret
      exact ⟨ret_int (firstI_none (by rwa [List.take_length] at hall)).symm, rfl⟩

set_option maxHeartbeats 400000 in
theorem first_nil (p : Option Addr) (c : Nat) (kind m who : Int) (q : ByteArray) (w : World) :
    Calls Try.prog 32 #[.slice p 0 c, .int .i64 kind, .string q, .int .i64 m, .int .i64 who] w fun r w' => r = .returned (.int .i64 (firstI (isF kind q.toList m who) [])) ∧ w = w' := by
  go_enter Try.func32, Try.ntmps32
  go_wp2
  refine wp_loop_rounds 1 ?_
  rw [rounds_succ]
  go_wp2
  go_ret
  exact ⟨rfl, rfl⟩

theorem first_any (n : Nat) (sv : Value) (es : List Ent) (kind m who : Int) (q : ByteArray) (w : World) (hlen : es.length ≤ 9000000000000000) (h : HistAt n w sv es) :
    Calls Try.prog 32 #[sv, .int .i64 kind, .string q, .int .i64 m, .int .i64 who] w fun r w' => r = .returned (.int .i64 (firstI (isF kind q.toList m who) es)) ∧ w = w' := by
  rcases h with ⟨p, c, rfl, rfl⟩ | ⟨b, off, cap, rfl, hb, hc⟩
  · exact first_nil p c kind m who q w
  · exact first_some b off cap es kind m who q w hlen hc

end Go.Proofs.Ytgincippgaecfaa.Au
