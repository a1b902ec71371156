/-
  greatState: is a state great? No condition but that it lies so.
-/
import Derived.Test.YtckggmcjcdkfhaaGreatDoorS3
namespace Go.Proofs.YtckggmcjcdkfhaaGreatDoor.Va
open Go Go.RowKit Go.Proofs.Nu
attribute [-go_sem] Go.Instr.loadAt

/-- The state boxed. -/
abbrev sbox (w : World) (s : ST) (il al lv : Value) : World := w.alloc (.cells #[.int .i64 s.kind, .int .i64 s.section_, .int .i64 s.offset, .string s.cond, .string s.text, .int .i64 s.info.kind, .int .u64 s.info.num, .string s.info.text, il, .int .i64 s.info.elem, .bool s.failed, .bool s.elsewhere, .int .i64 s.ann.kind, .int .u64 s.ann.num, .string s.ann.text, al, .int .i64 s.ann.elem, .string s.txn, lv] 30)
theorem sbox_cells (w : World) (s : ST) (il al lv : Value) : Cells (sbox w s il al lv) w.heap.size 0 (s.cells il al lv) := cells_new (cs := s.cells il al lv)
theorem sbox_below (w : World) (s : ST) (il al lv : Value) : Below w.heap.size w (sbox w s il al lv) := (one_block rfl).2.2
theorem sbox_size (w : World) (s : ST) (il al lv : Value) : (sbox w s il al lv).heap.size = w.heap.size + 1 := heap_alloc_size _ _
def stGreat (s : ST) : Bool := s.gr || decide (10000 < swt s 0)
set_option maxRecDepth 100000 in
set_option maxHeartbeats 1000000 in
theorem greatS_raw {B N n : Nat} (s : ST) (il al lv : Value) (w : World) (hf : s.Fine) (hil : LAt B w N il s.info.list) (hal : LAt B w N al s.ann.list) (hlv : SAt B N w n lv s.inner) (hB : B ≤ w.heap.size) :
    Calls Tryz.prog 10 #[s.agg il al lv] w fun r w' => r = .returned (.bool (stGreat s)) ∧ Below w.heap.size w w' := by
  obtain ⟨p, c, rfl⟩ := hlv.slice
  have hb1 := sbox_below w s il al (.slice p s.inner.length c)
  have hz1 := sbox_size w s il al (.slice p s.inner.length c)
  have hld1 := load_state (sbox_cells w s il al (.slice p s.inner.length c))
  have HW := Lib.hid (sweighs n B N s il al (.slice p s.inner.length c) 0 (sbox w s il al (.slice p s.inner.length c)) hf (hil.below (hb1.mono hB)) (hal.below (hb1.mono hB)) (hlv.below (hb1.mono hB)) (by omega) (by omega))
  have HK : Hid (∀ w2, Below (w.heap.size + 1) (sbox w s il al (.slice p s.inner.length c)) w2 → Cells w2 w.heap.size 0 (s.cells il al (.slice p s.inner.length c)) ∧ Below w.heap.size w w2 ∧
      ∀ W3, w2.alloc (.cells #[.int .i64 s.info.kind, .int .u64 s.info.num, .string s.info.text, il, .int .i64 s.info.elem, .int .i64 s.ann.kind, .int .u64 s.ann.num, .string s.ann.text, al, .int .i64 s.ann.elem] 25) = W3 → Calls Tryz.prog 17 #[.slice (some ⟨w2.heap.size, 0, none⟩) 2 2] W3 (fun r w' => r = .returned (.bool s.gr) ∧ Below w.heap.size w w')) := fun w2 h => by
    have hbw : Below w.heap.size w w2 := hb1.trans (h.mono (by omega))
    have hs2 : w.heap.size ≤ w2.heap.size := by have := h.size; omega
    refine ⟨(sbox_cells w s il al (.slice p s.inner.length c)).below h (by omega), hbw, fun W3 hW3 => ?_⟩
    obtain ⟨h1, h2, h3⟩ := one_block hW3
    have hb : Below B w W3 := (hbw.trans (h3.mono hs2)).mono hB
    exact (greatAll_any (B := W3.heap.size) (pair_lat h1 (by omega) hf.i hf.a ((hil.below hb).up (by omega)) ((hal.below hb).up (by omega))) (Nat.le_refl _)).mono fun r w' ⟨x, y⟩ => ⟨x, (hbw.trans (h3.mono hs2)).trans (y.mono (by omega))⟩
  clear hlv hil hal hf hb1
  go_enter Tryz.func10, Tryz.ntmps10
  go_wp2_with (fail)
  refine HW.out.mono ?_
  rintro r w2 ⟨rfl, hb2⟩
  obtain ⟨hc, hbw, hG⟩ := HK.out w2 (hb2.mono (by omega))
  have hld2 := load_value (Cells.info (s := s) hc)
  have hld3 := load_value (Cells.ann (s := s) hc)
  clear hb2 hc hld1 hz1
  have HG := Lib.hid hG
  clear hG hbw
  go_wp2_with (fail)
  refine (HG.out _ rfl).mono ?_
  rintro r w4 ⟨rfl, hb4⟩
  have HB4 := Lib.hid hb4
  clear hb4 hld2 hld3
  obtain ⟨g, hg⟩ : ∃ g, s.gr = g := ⟨_, rfl⟩
  obtain ⟨m, hm⟩ : ∃ m, swt s 0 = m := ⟨_, rfl⟩
  have HS : Hid (stGreat s = (g || decide (10000 < m))) := by show stGreat s = _; rw [stGreat, hg, hm]
  rw [hg, hm]
  clear hg hm
  cases g with
  | true =>
    go_wp2
    go_ret
    exact ⟨ret_bool (by rw [HS.out]; rfl), HB4.out⟩
  | false =>
    go_wp2
    go_ret
    refine ⟨ret_bool ?_, HB4.out⟩
    rw [HS.out, Bool.eq_iff_iff]; simp <;> omega
end Go.Proofs.YtckggmcjcdkfhaaGreatDoor.Va
