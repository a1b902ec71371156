/-
  The reference's Order: a single pass. No condition but that the slice holds the history, and the reach.
-/
import Derived.Test.YtgincippgaecfaaH3
namespace Go.Proofs.Ytgincippgaecfaa.Au
open Go Go.RowKit

def passFrom (es : List Ent) (q : List UInt8) (who : Int) (k : Nat) (last : Int) : Bool := passR es q who (List.range' k (es.length - k)) last

theorem passFrom_zero (es : List Ent) (q : List UInt8) (who : Int) : passFrom es q who 0 (-1) = orderR es q who := by
  simp [passFrom, orderR, List.range_eq_range']
theorem passFrom_end (es : List Ent) (q : List UInt8) (who last : Int) : passFrom es q who es.length last = true := by
  simp [passFrom, passR]
theorem range_step {n k : Nat} (h : k < n) : List.range' k (n - k) = k :: List.range' (k + 1) (n - (k + 1)) := by
  obtain ⟨m, hm⟩ : ∃ m, n - k = m + 1 := ⟨n - k - 1, by omega⟩
  rw [hm, List.range'_succ]
  congr 2
  omega
theorem passFrom_none {es : List Ent} {q : List UInt8} {who last : Int} {k : Nat} (hk : k < es.length) (h : stepR es q who k = none) : passFrom es q who k last = passFrom es q who (k + 1) last := by
  unfold passFrom
  rw [range_step hk]
  simp [passR, h]
theorem passFrom_low {es : List Ent} {q : List UInt8} {who last : Int} {k : Nat} {p : Int × Nat} (hk : k < es.length) (h : stepR es q who k = some p) (hl : (p.2 : Int) < last) : passFrom es q who k last = false := by
  unfold passFrom
  rw [range_step hk]
  obtain ⟨m, s⟩ := p
  simp [passR, h]
  exact fun h' => absurd hl (by simpa using h')
theorem passFrom_high {es : List Ent} {q : List UInt8} {who last : Int} {k : Nat} {p : Int × Nat} (hk : k < es.length) (h : stepR es q who k = some p) (hl : ¬ (p.2 : Int) < last) : passFrom es q who k last = passFrom es q who (k + 1) p.2 := by
  unfold passFrom
  rw [range_step hk]
  obtain ⟨m, s⟩ := p
  have hl' : ¬ ((s : Nat) : Int) < last := hl
  simp [passR, h, hl']

theorem isF_got {q : List UInt8} {who m : Int} (h : who ≠ 0) : isF 4 q m who = isGot q who m := by
  funext e
  rw [Bool.eq_iff_iff]
  simp [isF, isGot, h]
theorem isF_sent {q : List UInt8} {m : Int} : isF 1 q m 0 = isSent q m := by
  funext e
  rw [Bool.eq_iff_iff]
  simp [isF, isSent]
theorem firstI_eq {p : Ent → Bool} {es : List Ent} {k : Nat} : firstI p es = k ↔ firstP p es = some k := by
  unfold firstI firstP
  cases es.findIdx? p <;> simp <;> omega
theorem stepR_got {es : List Ent} {q : List UInt8} {who : Int} {k : Nat} {e : Ent} (he : es[k]? = some e) (h : isGot q who e.msg e = false) : stepR es q who k = none := by
  simp [stepR, he, h]
theorem stepR_at {es : List Ent} {q : List UInt8} {who : Int} {k : Nat} {e : Ent} (he : es[k]? = some e) (hw : who ≠ 0) (h : ¬ firstI (isF 4 q e.msg who) es = k) : stepR es q who k = none := by
  rw [firstI_eq, isF_got hw] at h
  simp [stepR, he, h]
theorem stepR_sent {es : List Ent} {q : List UInt8} {who : Int} {k : Nat} {e : Ent} (he : es[k]? = some e) (h : firstI (isF 1 q e.msg 0) es < 0) : stepR es q who k = none := by
  rw [isF_sent] at h
  have : firstP (isSent q e.msg) es = none := by
    unfold firstI at h
    unfold firstP
    cases hs : es.findIdx? (isSent q e.msg) with
    | none => rfl
    | some i => rw [hs] at h; simp at h; omega
  simp [stepR, he, this]
theorem stepR_told {es : List Ent} {q : List UInt8} {who : Int} {k : Nat} {e : Ent} (he : es[k]? = some e) (hw : who ≠ 0) (hg : isGot q who e.msg e = true) (h : firstI (isF 4 q e.msg who) es = k) (hs : ¬ firstI (isF 1 q e.msg 0) es < 0) :
    ∃ s : Nat, firstI (isF 1 q e.msg 0) es = s ∧ stepR es q who k = some (e.msg, s) := by
  rw [firstI_eq, isF_got hw] at h
  rw [isF_sent] at hs ⊢
  unfold firstI at hs ⊢
  cases hf : es.findIdx? (isSent q e.msg) with
  | none => rw [hf] at hs; simp at hs
  | some i =>
    refine ⟨i, rfl, ?_⟩
    have hf' : firstP (isSent q e.msg) es = some i := hf
    simp [stepR, he, hg, h, hf']

def ret2 (b : Bool) (e : Int) : Ending := .returned (.tuple #[.bool b, .int .i64 e])
theorem ret2_eq {a b : Bool} {x y : Int} (h : a = b) (k : x = y) : Ending.returned (.tuple #[.bool a, .int .i64 x]) = .returned (.tuple #[.bool b, .int .i64 y]) := by rw [h, k]

/-- What Order answers: the bool, the error. -/
def orderB (es : List Ent) (q : List UInt8) (who : Int) : Bool := decide (histE es = 0) && decide (1 ≤ who) && decide (who ≤ 8) && orderR es q who
def orderE (es : List Ent) (who : Int) : Int := if histE es = 0 then (if 1 ≤ who ∧ who ≤ 8 then 0 else 1) else histE es

theorem hp_none {es : List Ent} {q : List UInt8} {who last : Int} {k : Nat} (HP : Hid (passFrom es q who k last = orderR es q who)) (hk : k < es.length) (h : stepR es q who k = none) : Hid (passFrom es q who (k + 1) last = orderR es q who) :=
  (passFrom_none hk h).symm.trans HP
theorem hp_low {es : List Ent} {q : List UInt8} {who last : Int} {k : Nat} (HP : Hid (passFrom es q who k last = orderR es q who)) (hk : k < es.length) {s : Nat} {m x : Int} (hx : x = s) (h : stepR es q who k = some (m, s)) (hl : x < last) : false = orderR es q who :=
  (passFrom_low hk h (by subst hx; exact hl)).symm.trans HP
theorem hp_high {es : List Ent} {q : List UInt8} {who last : Int} {k : Nat} (HP : Hid (passFrom es q who k last = orderR es q who)) (hk : k < es.length) {s : Nat} {m x : Int} (hx : x = s) (h : stepR es q who k = some (m, s)) (hl : last ≤ x) : Hid (passFrom es q who (k + 1) x = orderR es q who) := by
  subst hx
  exact (passFrom_high hk h (by simp; omega)).symm.trans HP

set_option maxRecDepth 100000 in
set_option maxHeartbeats 2000000 in
theorem rorder_good (n : Nat) (b off cap : Nat) (es : List Ent) (who : Int) (q : ByteArray) (w : World) (hb : b < n) (hn : n ≤ w.heap.size) (hlen : es.length ≤ 400) (h1 : 1 ≤ who) (h8 : who ≤ 8)
    (hc : ∀ i e, es[i]? = some e → EntAt w b (off + i * 6) e) (hh : Hid (histE es = 0)) :
    Calls Try.prog 18 #[.string q, .int .i64 who, .slice (some ⟨b, off, none⟩) es.length cap] w fun r w' => r = .returned (.tuple #[.bool (orderR es q.toList who), .int .i64 0]) ∧ Below w.heap.size w w' := by
  have hH : HistAt n w (.slice (some ⟨b, off, none⟩) es.length cap) es := .inr ⟨b, off, cap, rfl, hb, hc⟩
  have HC : ∀ W, Below w.heap.size w W → ∀ i e, es[i]? = some e → EntAt W b (off + i * 6) e := fun W hW i e he => (hc i e he).below hW (by omega)
  clear hc
  go_enter Try.func18, Try.ntmps18
  go_wp2_with (go_at_call 22; refine (history_any n _ es _ hH hn).mono ?_; rintro r w1 ⟨rfl, hb1⟩; rw [hh.out])
  go_loop [9, 10] (fun l i => ∃ (k : Nat) (last : Int), l = .int .i64 last ∧ i = .int .i64 k ∧ k ≤ es.length ∧ Hid (passFrom es q.toList who k last = orderR es q.toList who)) (fun _ i => es.length - (intOf i).toNat)
  case atStart => exact ⟨0, -1, rfl, rfl, Nat.zero_le _, passFrom_zero _ _ _⟩
  case round =>
    obtain ⟨k, last, rfl, rfl, hk, HP⟩ := hrel
    have HH := Lib.hid (hH.below (hb1.mono hn))
    by_cases hlt : k < es.length
    · obtain ⟨e, he⟩ : ∃ e, es[k]? = some e := ⟨_, List.getElem?_eq_getElem hlt⟩
      obtain ⟨c0, c1, c2, c3, c4, c5⟩ := HC w1 hb1 k e he
      have HE := Lib.hid he
      clear he HC
      go_wp2_with (go_at_call 32; refine (first_any n _ es _ _ _ _ _ (by omega) HH.out).mono ?_; rintro r w2 ⟨rfl, rfl⟩)
      · go_round
        case rel => exact ⟨k + 1, last, rfl, by go_num, by omega, hp_none HP hlt (stepR_got HE.out (by clear HE HP HH; go_light; simp_all [isGot]))⟩
        case measure => simp [intOf]; omega
      · go_round
        case rel => exact ⟨k + 1, last, rfl, by go_num, by omega, hp_none HP hlt (stepR_sent HE.out (by assumption))⟩
        case measure => simp [intOf]; omega
      · go_ret2
        obtain ⟨s, hx, hs⟩ := stepR_told (who := who) (q := q.toList) HE.out (by omega) (by clear HE HP HH; go_light; simp_all [isGot]) (by assumption) (by omega)
        exact ⟨ret2_eq (hp_low HP hlt hx hs (by assumption)) rfl, hb1⟩
      · obtain ⟨s, hx, hs⟩ := stepR_told (who := who) (q := q.toList) HE.out (by omega) (by clear HE HP HH; go_light; simp_all [isGot]) (by assumption) (by omega)
        go_round
        case rel => exact ⟨k + 1, _, rfl, by go_num, by omega, hp_high HP hlt hx hs (by assumption)⟩
        case measure => simp [intOf]; omega
      · go_round
        case rel => exact ⟨k + 1, last, rfl, by go_num, by omega, hp_none HP hlt (stepR_at HE.out (by omega) (by assumption))⟩
        case measure => simp [intOf]; omega
      · go_round
        case rel => exact ⟨k + 1, last, rfl, by go_num, by omega, hp_none HP hlt (stepR_got HE.out (by clear HE HP HH; go_light; simp_all [isGot]))⟩
        case measure => simp [intOf]; omega
      · go_round
        case rel => exact ⟨k + 1, last, rfl, by go_num, by omega, hp_none HP hlt (stepR_got HE.out (by clear HE HP HH; go_light; simp_all [isGot]))⟩
        case measure => simp [intOf]; omega
    · obtain rfl : k = es.length := by omega
      go_wp2
      go_ret2
      exact ⟨ret2_eq (by rw [← HP.out, passFrom_end]) rfl, hb1⟩

end Go.Proofs.Ytgincippgaecfaa.Au
