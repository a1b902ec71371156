/-
  LentAll: a list of values is laid anew, with marks behind it. No condition but that it lies so and is not great.
-/
import Derived.Test.YtckggmcjcdkfhaaGreatDoorL1
import Derived.Test.YtckggmcjcdkfhaaGreatDoorNuLnt
namespace Go.Proofs.YtckggmcjcdkfhaaGreatDoor.Va
open Go Go.RowKit Go.Proofs.Nu

noncomputable def infoV : TypeInfo := match Tryz.prog.info? 25 with | some i => i | none => default
theorem info_v : Tryz.prog.info? 25 = some infoV := by kernel_rfl
theorem infoV_zero : infoV.zero = some (.agg #[.int .i64 0, .int .u64 0, .string ⟨#[]⟩, .slice none 0 0, .int .i64 0]) := by kernel_rfl
theorem infoV_size : infoV.size = 5 := by kernel_rfl
theorem infoV_bytes : infoV.bytes = 64 := by kernel_rfl
theorem make_values (w : World) (n : Nat) (hn : n ≤ 100000) : ∃ C : Array Value, C.size = (n + 3) * 5 ∧ (Instr.makeSlice 23 (.int .i64 (n + 3)) (.int .i64 (n + 3))).run Tryz.prog w = .ok (.slice (some ⟨w.heap.size, 0, none⟩) (n + 3) (n + 3)) (w.alloc (.cells C 25)) := by
  have := run_make (P := Tryz.prog) w 23 25 infoV _ Tryz.underlying23 info_v infoV_zero .i64 .i64 (n + 3) (n + 3) (by omega) (Int.le_refl _) (by rw [infoV_bytes]; omega) (by omega)
  rw [infoV_size] at this
  have e : (((n : Int) + 3).toNat) = n + 3 := by omega
  rw [e] at this
  exact ⟨_, size_madeCells _ _, this⟩

set_option maxRecDepth 100000 in
set_option maxHeartbeats 2000000 in
theorem lents : ∀ N, LentS N := by
  intro N
  induction N with
  | zero => intro B lv l w h; exact h.elim
  | succ N ih =>
    intro B lv l w hl hs hB
    have HS := Lib.hid ih
    have HL := Lib.hid hl
    have HSM := Lib.hid hs
    obtain ⟨p, c, rfl⟩ := hl.slice
    have hlen := hs.len
    clear hl hs ih
    obtain ⟨n, hn⟩ : ∃ n, l.length = n := ⟨_, rfl⟩
    have Hn := Lib.hid hn
    rw [hn] at hlen ⊢
    clear hn
    obtain ⟨C, hC, hmk⟩ := make_values w n hlen
    have hw3 : IntKind.i64.wrap ((n : Int) + 3) = n + 3 := by rw [IntKind.wrap_i64]; omega
    have HR0 : Hid (LRel w (w.alloc (.cells C 25)) N 0 l) := LRel.start (by rw [Hn.out]; exact hC)
    clear hC
    go_enter Tryz.func81, Tryz.ntmps81
    go_wp2
    clear hmk
    go_loopw [5] (fun i wr => ∃ (j : Nat), i = .int .i64 j ∧ j ≤ n + 3 ∧ Hid (LRel w wr N j l)) (fun i _ => n + 3 - (intOf i).toNat)
    case atStart => exact ⟨0, rfl, Nat.zero_le _, HR0⟩
    case round =>
      obtain ⟨j, rfl, hj, HR⟩ := hrel
      have h3 := hlen
      by_cases hlt : j < n + 3
      · obtain ⟨v0, v1, v2, v3, v4, e0, e1, e2, e3, e4⟩ := HR.out.has.at5 (o := j * 5) (by rw [Hn.out]; omega)
        have q0 := HR.out.froz (j * 5)
        have q1 := HR.out.froz (j * 5 + 1)
        have q2 := HR.out.froz (j * 5 + 2)
        have q3 := HR.out.froz (j * 5 + 3)
        have q4 := HR.out.froz (j * 5 + 4)
        have hlt3 : (j : Int) < (n : Int) + 3 := by omega
        by_cases hjn : j < n
        · rcases HL.out with ⟨h0, _⟩ | ⟨b0, off, c', hp, hbB, _, hel⟩
          · rw [← Hn.out, h0] at hjn; exact absurd hjn (by simp)
          rw [Hn.out] at hp
          cases hp
          obtain ⟨t, ht⟩ : ∃ t, l[j]? = some t := ⟨_, List.getElem?_eq_getElem (by rw [Hn.out]; exact hjn)⟩
          obtain ⟨hf, lv, hat, hlv⟩ := hel j t ht
          obtain ⟨g0, g1, g2, g3, g4⟩ := hat.below (HR.out.below.mono hB) hbB
          have hne : b0 ≠ w.heap.size := by omega
          have hne' : w.heap.size ≠ b0 := by omega
          have hjn' : (j : Int) < (n : Int) := by omega
          have HT := Lib.hid ht
          have HF := Lib.hid hf
          have hsm := HSM.out.child ht
          have HC : Hid (∀ w', Below w.heap.size w w' → Calls Tryz.prog 35 #[.agg #[.int .i64 t.kind, .int .u64 t.num, .string t.text, lv, .int .i64 t.elem]] w' fun r w'' => ∃ b', r = .returned (.agg #[.int .i64 t.kind, .int .u64 t.num, .string t.text, .slice (some ⟨b', 0, none⟩) t.list.length (t.list.length + 3), .int .i64 t.elem]) ∧ LentAt w'' N w'.heap.size w''.heap.size (.slice (some ⟨b', 0, none⟩) t.list.length (t.list.length + 3)) t.list ∧ Below w'.heap.size w' w'') := fun w' hb' =>
            (lent_of HS.out B t.kind t.num t.text t.elem t.list lv w' (hlv.below (hb'.mono hB)) hsm (Nat.le_trans hB hb'.size)).mono fun r w'' ⟨v', h1, h2, h3⟩ => by
              obtain ⟨b', hb''⟩ := h2.form
              subst hb''
              exact ⟨b', h1, h2, h3⟩
          clear hel hat hlv ht hf hsm
          go_wp2_with (fail)
          generalize hW5 : World.setCell _ _ _ = W5
          have HW5 : Hid (set5 wr w.heap.size (j * 5) (.int .i64 (-7)) (.int .u64 j) (.string ⟨#[]⟩) (.slice none 0 0) (.int .i64 0) = W5) := hW5
          clear hW5
          refine (HC.out W5 (by rw [← HW5.out]; exact set5_below HR.out.below (Nat.le_refl _))).mono ?_
          rintro r w2 ⟨b', rfl, hL, hb2⟩
          have HL2 := Lib.hid hL
          have HB2 := Lib.hid hb2
          have hlt5 : w.heap.size < W5.heap.size := by rw [← HW5.out, set5_size]; exact HR.out.lt
          have HS5 : Has W5 w.heap.size ((l.length + 3) * 5) := by rw [← HW5.out]; exact HR.out.has.set5 (by rw [Hn.out]; omega)
          have fz : ∀ o, w2.frozen? ⟨w.heap.size, o, none⟩ = false := fun o => (hb2.frozen (p := ⟨_, o, none⟩) hlt5).trans (by rw [← HW5.out, set5_frozen]; exact HR.out.froz o)
          obtain ⟨u0, u1, u2, u3, u4, x0, x1, x2, x3, x4⟩ := (HS5.below hb2 hlt5).at5 (o := j * 5) (by rw [Hn.out]; omega)
          have y0 := fz (j * 5)
          have y1 := fz (j * 5 + 1)
          have y2 := fz (j * 5 + 2)
          have y3 := fz (j * 5 + 3)
          have y4 := fz (j * 5 + 4)
          clear hL hb2 HS5 fz e0 e1 e2 e3 e4 q0 q1 q2 q3 q4 g0 g1 g2 g3 g4 hlt5
          go_wp2
          go_roundw
          case rel => exact ⟨j + 1, by go_num, by omega, HR.out.part HT.out HF.out _ _ _ _ _ (by rw [HW5.out]; exact HB2.out) (by rw [HW5.out]; exact HL2.out)⟩
          case measure => simp [intOf]; omega
        · have hjn' : ¬ ((j : Int) < (n : Int)) := by omega
          go_wp2
          go_roundw
          case rel => exact ⟨j + 1, by go_num, by omega, HR.out.mark (by rw [Hn.out]; omega) (by rw [Hn.out]; omega)⟩
          case measure => simp [intOf]; omega
      · obtain rfl : j = n + 3 := by omega
        go_wp2
        go_ret
        have := HR.out
        rw [← Hn.out] at this
        refine ⟨_, rfl, ?_, this.below⟩
        rw [← Hn.out]
        exact this.done (by rw [Hn.out]; exact hlen)
end Go.Proofs.YtckggmcjcdkfhaaGreatDoor.Va
