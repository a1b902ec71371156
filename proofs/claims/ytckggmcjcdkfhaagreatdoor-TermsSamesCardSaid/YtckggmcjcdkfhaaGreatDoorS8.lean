/-
  keptState: a state that was lent reads as it did; then it is written over. Conditions: the original lies so, below what was lent.
-/
import Derived.Test.YtckggmcjcdkfhaaGreatDoorS7
import Derived.Deep.RegionHeld3
import Derived.Deep.DrawnRows
namespace Go.Proofs.YtckggmcjcdkfhaaGreatDoor.Va
open Go Go.RowKit Go.Proofs.Nu
attribute [-go_sem] Go.Instr.storeAt Go.Instr.loadAt
attribute [local go_sem ↓] Go.wp_at_zero Go.wp_at_succ

def KsS (n : Nat) : Prop := ∀ (B N lo hi : Nat) (s : ST) (il al lv il0 al0 lv0 : Value) (m1 m2 : Nat) (w : World), LentAt w N lo m1 il s.info.list → LentAt w N m1 m2 al s.ann.list → SLent w N n m2 hi lv s.inner → LAt B w N il0 s.info.list → LAt B w N al0 s.ann.list → SAt B N w n lv0 s.inner → B ≤ lo → hi ≤ w.heap.size →
    Calls Tryz.prog 14 #[s.agg il al lv, s.agg il0 al0 lv0] w fun r w' => r = .returned (.bool true) ∧ Apart lo hi w w'
set_option maxRecDepth 100000 in
set_option maxHeartbeats 4000000 in
theorem keptStates : ∀ n, KsS n := by
  intro n
  induction n with
  | zero => intro B N lo hi s il al lv il0 al0 lv0 m1 m2 w _ _ h; exact h.elim
  | succ n ih =>
    intro B N lo hi s il al lv il0 al0 lv0 m1 m2 w hl1 hl2 hl3 ho1 ho2 ho3 hB hhi
    have HS := Lib.hid ih
    have HL := Lib.hid ho3
    obtain ⟨p, c, rfl⟩ := ho3.slice
    have e1 := hl1.le
    have e2 := hl2.le
    have e3 := hl3.le
    obtain ⟨bX, rfl, hlo, hbh, hlen, _⟩ := slent_open hl3
    obtain ⟨m, hm⟩ : ∃ m, s.inner.length = m := ⟨_, rfl⟩
    have Hm := Lib.hid hm
    obtain ⟨W1, hW1⟩ : ∃ W1, (w.alloc (.cells #[.int .i64 s.kind, .int .i64 s.section_, .int .i64 s.offset, .string s.cond, .string s.text, .int .i64 s.info.kind, .int .u64 s.info.num, .string s.info.text, il, .int .i64 s.info.elem, .bool s.failed, .bool s.elsewhere, .int .i64 s.ann.kind, .int .u64 s.ann.num, .string s.ann.text, al, .int .i64 s.ann.elem, .string s.txn, lentSS bX s.inner.length] 30)).alloc (.cells #[.int .i64 s.kind, .int .i64 s.section_, .int .i64 s.offset, .string s.cond, .string s.text, .int .i64 s.info.kind, .int .u64 s.info.num, .string s.info.text, il0, .int .i64 s.info.elem, .bool s.failed, .bool s.elsewhere, .int .i64 s.ann.kind, .int .u64 s.ann.num, .string s.ann.text, al0, .int .i64 s.ann.elem, .string s.txn, .slice p s.inner.length c] 30) = W1 := ⟨_, rfl⟩
    have hz1 : W1.heap.size = w.heap.size + 2 := by rw [← hW1, heap_alloc_size, heap_alloc_size]
    obtain ⟨k1, k2, _, _, kb1, _⟩ := two_cells (w := w) (w2 := W1) (cs := s.cells il al (lentSS bX s.inner.length)) (ds := s.cells il0 al0 (.slice p s.inner.length c)) (T := 30) (by rw [← hW1]; exact Below.refl _ _)
    have HK : Hid (∀ w2, Apart lo hi W1 w2 → Cells w2 w.heap.size 0 (s.cells il al (lentSS bX s.inner.length)) ∧ Cells w2 (w.heap.size + 1) 0 (s.cells il0 al0 (.slice p s.inner.length c)) ∧ Apart lo hi w w2) := fun w2 h => ⟨k1.apart h (by omega) (.inr hhi), k2.apart h (by omega) (.inr (by omega)), (Apart.of_below kb1 (Nat.le_refl _)).trans h⟩
    have hl1' := hl1.below (by omega) (kb1.mono (Nat.le_refl _))
    have hl2' := hl2.below (by omega) (kb1.mono (Nat.le_refl _))
    have hl3' := hl3.below hhi (kb1.mono (Nat.le_refl _))
    have hbB : B ≤ w.heap.size := by omega
    have HC1 := Lib.hid (keptF_any (B := B) s.cond s.text s.info il il0 W1 hl1' (ho1.below (kb1.mono hbB)) hB (by omega))
    have HC2 : Hid (∀ w2, Apart lo m1 W1 w2 → Calls Tryz.prog 39 #[.agg #[.int .i64 s.ann.kind, .int .u64 s.ann.num, .string s.ann.text, al, .int .i64 s.ann.elem], .agg #[.int .i64 s.ann.kind, .int .u64 s.ann.num, .string s.ann.text, al0, .int .i64 s.ann.elem]] w2 fun r w' => r = .returned (.bool true) ∧ Apart m1 m2 w2 w') := fun w2 h =>
      kept_of (kepts N) B m1 m2 s.ann.kind s.ann.num s.ann.text s.ann.elem s.ann.list al al0 w2 (hl2'.apart h (by omega) (.inr (Nat.le_refl _))) (ho2.below ((kb1.mono hbB).trans (h.below hB (by omega)))) (by omega) (by have := h.size; omega)
    have HKR : Hid (∀ w3, Apart lo m2 W1 w3 → KRel w3 w3 N n bX m2 hi 0 s.inner ∧ hi ≤ w3.heap.size ∧ w.heap.size + 2 ≤ w3.heap.size ∧ Below B w w3) := fun w3 h => by
      have h3 := hl3'.apart h (by omega) (.inr (Nat.le_refl _))
      obtain ⟨b', hb', _, _, _, hk⟩ := slent_open h3
      have : bX = b' := by simpa using hb'
      subst this
      exact ⟨hk, by have := h.size; omega, by have := h.size; omega, (kb1.mono hbB).trans (h.below hB (by omega))⟩
    rw [hm] at hlen HL k1 k2 HK hW1 ⊢
    clear hm
    have q1 := load_fault (o := 3) (cells_fault (s := s) k1)
    have r1 := load_fault (o := 3) (cells_fault (s := s) k2)
    clear k1 k2 kb1 hz1 hl1 hl2 hl3 ho1 ho2 ho3 hl1' hl2' hl3' ih
    go_enter Tryz.func14, Tryz.ntmps14
    go_wp2_with (fail)
    clear hW1 q1 r1
    refine HC1.out.mono ?_
    rintro r w2 ⟨rfl, ha2⟩
    have A2 := Lib.hid ha2
    obtain ⟨c1, c2, _⟩ := HK.out w2 (ha2.wide (Nat.le_refl _) (by omega))
    have q1 : (Instr.loadAt 25 (.pointer (some ⟨w.heap.size, 12, none⟩))).run Tryz.prog w2 = .ok (.agg #[.int .i64 s.ann.kind, .int .u64 s.ann.num, .string s.ann.text, al, .int .i64 s.ann.elem]) w2 := load_value (o := 12) (cells_ann (s := s) c1)
    have r1 : (Instr.loadAt 25 (.pointer (some ⟨w.heap.size + 1, 12, none⟩))).run Tryz.prog w2 = .ok (.agg #[.int .i64 s.ann.kind, .int .u64 s.ann.num, .string s.ann.text, al0, .int .i64 s.ann.elem]) w2 := load_value (o := 12) (cells_ann (s := s) c2)
    clear c1 c2 ha2
    go_wp2_with (fail)
    clear q1 r1
    refine (HC2.out w2 A2.out).mono ?_
    rintro r w3 ⟨rfl, ha3⟩
    have A3 := Lib.hid ((A2.out.wide (Nat.le_refl lo) (by omega : m1 ≤ m2)).trans (ha3.wide (by omega) (Nat.le_refl _)))
    clear ha3 A2 HC2 HC1
    obtain ⟨c1, c2, hA3⟩ := HK.out w3 (A3.out.wide (Nat.le_refl _) (by omega))
    obtain ⟨hKR, hh3, hs3, hB3⟩ := HKR.out w3 A3.out
    have HKR0 := Lib.hid hKR
    have HA3 := Lib.hid hA3
    have HB3 := Lib.hid hB3
    have q0 := load_int (cell_of c1 0 _ rfl)
    have q1 := load_int (cell_of c1 1 _ rfl)
    have q2 := load_int (cell_of c1 2 _ rfl)
    have q3 := load_bool (cell_of c1 10 _ rfl)
    have q4 := load_bool (cell_of c1 11 _ rfl)
    have q5 := load_str (cell_of c1 17 _ rfl)
    have q6 := load_slice (cell_of c1 18 _ rfl)
    have r0 := load_int (cell_of c2 0 _ rfl)
    have r1 := load_int (cell_of c2 1 _ rfl)
    have r2 := load_int (cell_of c2 2 _ rfl)
    have r3 := load_bool (cell_of c2 10 _ rfl)
    have r4 := load_bool (cell_of c2 11 _ rfl)
    have r5 := load_str (cell_of c2 17 _ rfl)
    have r6 := load_slice (cell_of c2 18 _ rfl)
    have R6 := Lib.hid (cell_of c2 18 _ rfl)
    have hw2 : IntKind.i64.wrap ((m : Int) + 2) = m + 2 := by rw [IntKind.wrap_i64]; omega
    clear c1 c2 hKR hA3 hB3 HKR HK
    go_wp2
    clear q0 q1 q2 q3 q4 q5 q6 r0 r1 r2 r3 r4 r5 r6
    go_loopw [9, 10] (fun i x wr => ∃ (j : Nat), i = .int .i64 j ∧ j ≤ m + 2 ∧ Hid (KRel w3 wr N n bX m2 hi j s.inner)) (fun i _ _ => m + 2 - (intOf i).toNat)
    case atStart => exact ⟨0, rfl, Nat.zero_le _, HKR0⟩
    case round =>
      obtain ⟨j, rfl, hj, HR⟩ := hrel
      have hap := HR.out.apart
      have hsz := hap.size
      have d18 : wr.cell? ⟨w.heap.size + 1, 18, none⟩ = some (.slice p m c) := (hap.cell (p := ⟨w.heap.size + 1, 18, none⟩) (by show w.heap.size + 1 < _; omega) (.inr (by show hi ≤ w.heap.size + 1; omega))).trans R6.out
      by_cases hlt : j < m + 2
      · have hlt' : (j : Int) < (m : Int) + 2 := by omega
        have hwj : IntKind.i64.wrap (-7 - (j : Int)) = -7 - j := by rw [IntKind.wrap_i64]; omega
        have hMK : Hid (∀ w2, (w2.there bX (j * 19) 19) → (Instr.storeAt 30 (.pointer (some ⟨bX, j * 19, none⟩)) (.agg #[.int .i64 (-9), .int .i64 0, .int .i64 0, .string ⟨#[]⟩, .string ⟨#[]⟩, .int .i64 0, .int .u64 0, .string ⟨#[]⟩, .slice none 0 0, .int .i64 0, .bool false, .bool false, .int .i64 0, .int .u64 0, .string ⟨#[]⟩, .slice none 0 0, .int .i64 0, .string ⟨#[]⟩, .slice none 0 0])).run Tryz.prog w2 = .ok () (w2.setCells bX (j * 19) ((zeroS (-9)).cells nilV nilV nilV))) := fun w2 h => store_state (s := zeroS (-9)) h
        by_cases hjm : j < m
        · rcases HL.out with ⟨h0, _⟩ | ⟨b0, off, c', hp, hbB, _, hel⟩
          · exfalso; have := Hm.out; rw [h0] at this; simp at this; omega
          rw [Hm.out] at hp
          cases hp
          obtain ⟨t, ht⟩ : ∃ t, s.inner[j]? = some t := ⟨_, List.getElem?_eq_getElem (by rw [Hm.out]; exact hjm)⟩
          obtain ⟨x, y, il', al', lv', n1, n2, hbx, hy, tf, hcl, g1, g2, g3, hst⟩ := HR.out.head ht hlo hh3
          obtain ⟨_, il'', al'', lv'', hc, hi', ha', hl'⟩ := hel j t ht
          have hbw : Below B w wr := HB3.out.trans (hap.below (by omega) (by omega))
          have hc0 := hc.below hbw hbB
          have hjm' : (j : Int) < (m : Int) := by omega
          have hx1 := g1.le
          have hx2 := g2.le
          have hx3 := g3.le
          have HC : Hid (∀ w', Below wr.heap.size wr w' → Calls Tryz.prog 14 #[t.agg il' al' lv', t.agg il'' al'' lv''] w' fun r w'' => r = .returned (.bool true) ∧ Apart x y w' w'') := fun w' h =>
            HS.out B N x y t il' al' lv' il'' al'' lv'' n1 n2 w' (g1.below (by omega) h) (g2.below (by omega) h) (g3.below (by omega) h) ((hi'.below hbw).below (h.mono (by omega))) ((ha'.below hbw).below (h.mono (by omega))) ((hl'.below hbw).below (h.mono (by omega))) (by omega) (by have := h.size; omega)
          have HST := Lib.hid hst
          have hHas := Lib.hid (show ∀ w2, Apart x y wr w2 → w2.there bX (j * 19) 19 from fun w2 h => (HR.out.has.apart h (by omega) (.inl hbx)).there (fun o => (h.frozen (p := ⟨bX, o, none⟩) (by show bX < wr.heap.size; omega) (.inl hbx)).trans (HR.out.froz o)) (by rw [Hm.out]; omega))
          have e0 := load_int (w := wr) (a := ⟨bX, j * 19, none⟩) (hcl 0 _ rfl)
          have HALL : Hid (∀ w', Apart x y wr w' → (Apart x y wr w' ∧ (Instr.loadAt 30 (.pointer (some ⟨bX, j * 19, none⟩))).run Tryz.prog w' = .ok (t.agg il' al' lv') w' ∧ (Instr.loadAt 30 (.pointer (some ⟨b0, off + j * 19, none⟩))).run Tryz.prog w' = .ok (t.agg il'' al'' lv'') w' ∧ (Instr.loadAt 28 (.pointer (some ⟨w.heap.size + 1, 18, none⟩))).run Tryz.prog w' = .ok (.slice (some ⟨b0, off, none⟩) m c) w')) := fun w' h =>
            ⟨h, load_state (hcl.apart h (by omega) (.inl hbx)), load_state (hc0.apart h (by omega) (.inl (by omega))), load_slice ((h.cell (p := ⟨w.heap.size + 1, 18, none⟩) (by show w.heap.size + 1 < _; omega) (.inr (by show y ≤ w.heap.size + 1; omega))).trans d18)⟩
          clear hel hc hi' ha' hl' ht tf hcl g1 g2 g3 hst hbw hc0 hap
          have D18 := load_slice d18
          go_wp2
          go_region_held3 (fun w' => Apart x y wr w' ∧ (Instr.loadAt 30 (.pointer (some ⟨bX, j * 19, none⟩))).run Tryz.prog w' = .ok (t.agg il' al' lv') w' ∧ (Instr.loadAt 30 (.pointer (some ⟨b0, off + j * 19, none⟩))).run Tryz.prog w' = .ok (t.agg il'' al'' lv'') w' ∧ (Instr.loadAt 28 (.pointer (some ⟨w.heap.size + 1, 18, none⟩))).run Tryz.prog w' = .ok (.slice (some ⟨b0, off, none⟩) m c) w')
            (first
              | with_reducible exact HALL.out _ ((Apart.refl _ _ _).drew.trans hb2.out)
              | with_reducible exact HALL.out _ (Apart.refl _ _ _).drew)
            ((go_at_call 14; refine (HC.out _ (Below.refl _ _).drew).mono ?_; rintro r w2 ⟨rfl, hb2'⟩; have hb2 := Lib.hid hb2'; clear hb2'))
          have hb3 := Lib.hid ((Apart.refl x y wr).drew.trans hb2.out)
          have hstm := hMK.out w2 (hHas.out w2 hb3.out)
          clear HALL HC e0 d18 D18
          go_wp2
          go_roundw
          case rel => exact ⟨j + 1, by go_num, by omega, HST.out w2 hb3.out _ (scells_len _ _ _ _)⟩
          case measure => simp [intOf]; omega
        · have hjm' : ¬ ((j : Int) < (m : Int)) := by omega
          obtain ⟨ds, d1, d2, d3⟩ := HR.out.marks j (by rw [Hm.out]; omega) (by rw [Hm.out]; exact hlt) (Nat.le_refl _)
          have e0 := load_int (w := wr) (a := ⟨bX, j * 19, none⟩) (d3 0 _ d2)
          have hstm := hMK.out wr (HR.out.has.there HR.out.froz (by rw [Hm.out]; omega))
          clear d1 d2 d3 hap
          go_wp2
          go_roundw
          case rel => exact ⟨j + 1, by go_num, by omega, HR.out.mark (by rw [Hm.out]; omega) (by rw [Hm.out]; exact hlt) hlo hbh (scells_len _ _ _ _)⟩
          case measure => simp [intOf]; omega
      · obtain rfl : j = m + 2 := by omega
        go_wp2
        go_ret
        exact ⟨rfl, HA3.out.trans (hap.wide (by omega) (Nat.le_refl _))⟩
end Go.Proofs.YtckggmcjcdkfhaaGreatDoor.Va
