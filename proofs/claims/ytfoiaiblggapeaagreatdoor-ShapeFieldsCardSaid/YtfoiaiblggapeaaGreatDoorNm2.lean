/-
  shape.Name at every number: the name of the kind, by the rows. Condition: the table strings.asciiSpace lies as the program's text lays it.
-/
import Derived.Test.YtfoiaiblggapeaaGreatDoorNm1
import Derived.WalkKit
import Derived.WalkSpells
import Derived.WalkLawsBesides
import Derived.Deep.Light
import Derived.Lib.Hide
import Derived.Test.YtfoiaiblggapeaaGreatDoorNuRange
import Derived.Laws.Concat
namespace Go.Proofs.YtfoiaiblggapeaaGreatDoor.Nm
open Go Go.RowKit Go.Proofs.Nu

theorem rows_mem {w : World} : ∀ {rs : List (Int × List (List UInt8))} {es : List MapEntry} {b : Nat}, RowsAt w es b rs → ∀ e ∈ es, b ≤ e.born ∧ e.born < b + rs.length ∧ ∃ r ∈ rs, e.key = .int .i64 r.1 ∧ StrsAt w e.val r.2
  | [], es, b, h, e, he => by rw [show es = [] from h] at he; cases he
  | r :: rs, es, b, h, e, he => by
    obtain ⟨e0, t, rfl, h1, h2, h3, h4⟩ := h
    rcases List.mem_cons.1 he with rfl | he
    · exact ⟨by omega, by simp; omega, r, List.mem_cons_self, h1, h2⟩
    · obtain ⟨a, b', q, hq, c⟩ := rows_mem h4 e he
      exact ⟨by omega, by simp at b' ⊢; omega, q, List.mem_cons_of_mem _ hq, c⟩
theorem rows_all {w : World} : ∀ {rs : List (Int × List (List UInt8))} {es : List MapEntry} {b : Nat}, RowsAt w es b rs → ∀ r ∈ rs, ∃ e ∈ es, e.key = .int .i64 r.1 ∧ StrsAt w e.val r.2
  | [], _, _, _, r, hr => by cases hr
  | r0 :: rs, es, b, h, r, hr => by
    obtain ⟨e0, t, rfl, h1, h2, h3, h4⟩ := h
    rcases List.mem_cons.1 hr with rfl | hr
    · exact ⟨e0, List.mem_cons_self, h1, h2⟩
    · obtain ⟨e, he, c⟩ := rows_all h4 r hr
      exact ⟨e, List.mem_cons_of_mem _ he, c⟩
theorem rows_nodup {w : World} : ∀ {rs : List (Int × List (List UInt8))} {es : List MapEntry} {b : Nat}, RowsAt w es b rs → (es.map (·.born)).Nodup
  | [], es, b, h => by rw [show es = [] from h]; exact List.nodup_nil
  | r0 :: rs, es, b, h => by
    obtain ⟨e0, t, rfl, h1, h2, h3, h4⟩ := h
    rw [List.map_cons, List.nodup_cons]
    refine ⟨fun hm => ?_, rows_nodup h4⟩
    obtain ⟨e, he, heq⟩ := List.mem_map.1 hm
    have := (rows_mem h4 e he).1
    omega
theorem StrsAt.alike {w w1 : World} (ha : w1.heap = w.heap) {v : Value} {l : List (List UInt8)} (h : StrsAt w v l) : StrsAt w1 v l := by
  obtain ⟨b, off, c, h1, h2, h3⟩ := h
  refine ⟨b, off, c, h1, by rw [ha]; exact h2, fun i s hs => ?_⟩
  rw [← h3 i s hs]
  unfold World.cell?
  rw [ha]

/-- What an entry of the map says at a number. -/
def hits (k : Int) (e : MapEntry) : Prop := ∃ r ∈ rows, e.key = .int .i64 r.1 ∧ r.1 ≤ k ∧ k - r.1 < (r.2.length : Int)

theorem rows_bd : ∀ r ∈ rows, 16 ≤ r.1 ∧ r.1 ≤ 112 ∧ r.2.length ≤ 9 ∧ 1 ≤ r.2.length := by decide
set_option maxRecDepth 1000000 in
set_option maxHeartbeats 2000000 in
theorem name_any (k : Int) {w : World} {t : TypeId} (hsp : w.heap[0]? = some (.cells (Lib.asciiSpaceTab.map fun z => Value.int .u8 z).toArray t (0, 0))) (hk0 : -9223372036854775808 ≤ k) (hk1 : k ≤ 9223372036854775807) :
    Calls Tryz.prog 10 #[.int .i64 k] w fun e w' => e = .returned (.string (nameB k)) ∧ Below w.heap.size w w' := by
  go_enter Tryz.func10, Tryz.ntmps10
  go_wp2_with (refine (names_any hsp).mono ?_; rintro e wn ⟨bm, es, clock, rfl, hbm, hrows, rfl, hnew, hbel⟩; have hrg := run_range_map (P := Tryz.prog) wn 58 3 60 bm es 6 Tryz.underlying58 hbm)
  all_goals
    have hst1 : ∀ x ∈ es.toList, x.born < 6 := fun x hx => by have := (rows_mem hrows x hx).2.1; rw [show rows.length = 6 from rfl] at this; omega
    have hnd := rows_nodup hrows
    have hrowsH := Lib.hid hrows; clear hrows
    go_loopw [] (fun w' => ∃ (w1 : World) (seen : Array Nat), (w1.Alike wn ∧ w1.tape = wn.tape) ∧ w' = w1.alloc (.mapIter (some bm) 6 seen 6) ∧ ∀ x ∈ es.toList, seen.contains x.born = true → ¬ hits k x) (fun w' => (leftOf es (w'.iterSeen wn.heap.size)).size)
    case atStart => exact ⟨wn, #[], ⟨⟨rfl, rfl, rfl⟩, rfl⟩, rfl, fun x _ h => by simp at h⟩
    case round =>
      obtain ⟨w1, seen, hal, rfl, hno⟩ := hrel
      have hsz : w1.heap.size = wn.heap.size := by rw [hal.1.1]
      have hb1 : w1.heap[bm]? = some (.map es 6) := by rw [hal.1.1]; exact hbm
      have law := run_next_tape (P := Tryz.prog) w1 0 bm 6 6 seen es 6 hb1 hst1 (Nat.le_refl _)
      rw [hsz] at law
      rcases law with ⟨h0, hrun⟩ | ⟨e, he, w2, hal2, hrun⟩
      · have hnx : ∀ ty, (Instr.next (.pointer (some ⟨wn.heap.size, 0, none⟩)) false ty).run Tryz.prog (w1.alloc (.mapIter (some bm) 6 seen 6)) = _ := fun _ => hrun
        go_wp2
        go_ret
        refine ⟨?_, ?_⟩
        · have hn : nameL k = [] := name_none fun r hr hc => by
            obtain ⟨e, he, hke, _⟩ := rows_all hrowsH.out r hr
            exact hno e he (all_seen es seen h0 e he) ⟨r, hr, hke, hc.1, hc.2⟩
          unfold nameB
          rw [hn]; rfl
        · exact below_iter hbel hal hbel.size _
      · obtain ⟨r, hr, hkey, hstrs⟩ := (rows_mem hrowsH.out e (mem_left he).1).2.2
        obtain ⟨b, off, c, hval, hbl, hcell⟩ := hstrs
        rw [hkey, hval] at hrun
        have hnx : ∀ ty, (Instr.next (.pointer (some ⟨wn.heap.size, 0, none⟩)) false ty).run Tryz.prog (w1.alloc (.mapIter (some bm) 6 seen 6)) = _ := fun _ => hrun
        have hsz2 : w2.heap.size = wn.heap.size := by rw [hal2.1.1, hal.1.1]
        have hb2 : w2.heap[bm]? = some (.map es 6) := by rw [hal2.1.1]; exact hb1
        have hen := run_entry_map (P := Tryz.prog) w2 bm 6 seen es 6 e hb2 (mem_left he).1 hnd
        rw [hsz2, hkey, hval] at hen
        have hal3 : w2.Alike wn ∧ w2.tape = wn.tape := ⟨⟨hal2.1.1.trans hal.1.1, hal2.1.2.1.trans hal.1.2.1, hal2.1.2.2.trans hal.1.2.2⟩, hal2.2.trans hal.2⟩
        have hcell2 : ∀ i s, r.2[i]? = some s → w2.cell? ⟨b, off + i, none⟩ = some (.string ⟨s.toArray⟩) := fun i s hs => by
          rw [← hcell i s hs]; unfold World.cell?; rw [hal3.1.1]
        obtain ⟨f, l⟩ := r
        have hbd := rows_bd _ hr
        simp only at hkey hval hcell2 hbd hrun hen hnx
        obtain ⟨hf0, hf1, hl1, hl0⟩ := hbd
        have hnotyet : ∀ (_ : ¬ (f ≤ k ∧ k - f < (l.length : Int))) (x : MapEntry), x ∈ es.toList → (seen.push e.born).contains x.born = true → ¬ hits k x := by
          intro hh x hx hc
          rw [contains_push] at hc
          rcases Bool.or_eq_true _ _ ▸ hc with h1 | h1
          · exact hno x hx h1
          · have : x = e := born_inj hnd hx (mem_left he).1 (beq_iff_eq.1 h1)
            subst this
            rintro ⟨q, hq, hqk, hq1, hq2⟩
            rw [hkey] at hqk
            have hfe : f = q.1 := by injection hqk
            rcases rows_apart _ hr q hq with e1 | e1 | e1
            · subst e1; exact hh ⟨hq1, hq2⟩
            · simp only at e1; omega
            · simp only at e1; omega
        have hms : (leftOf es ((w2.alloc (.mapIter (some bm) 6 (seen.push e.born) 6)).iterSeen wn.heap.size)).size < (leftOf es ((w1.alloc (.mapIter (some bm) 6 seen 6)).iterSeen wn.heap.size)).size := by
          rw [← hsz2, World.iterSeen_alloc, hsz2, ← hsz, World.iterSeen_alloc]
          exact left_shrinks es seen e he
        have hny := Lib.hid hnotyet; clear hnotyet
        have hm := Lib.hid hms; clear hms
        by_cases h1 : f ≤ k
        · by_cases h2 : k - f < (l.length : Int)
          · obtain ⟨s, hs, hname⟩ := name_hit hr h1 h2
            simp only at hs hname
            have hc1 := hcell2 _ s hs
            have hnm := Lib.hid hname; clear hname
            have hsl := rows_len _ hr s (List.mem_of_getElem? hs)
            have hk2 : 0 ≤ k - f := by omega
            go_wp2
            go_ret
            refine ⟨?_, below_iter hbel hal3 hbel.size _⟩
            first
              | exact congrArg (fun x => Ending.returned (.string x)) (name_bytes hnm.out (form_map k (.inl (by assumption))))
              | exact congrArg (fun x => Ending.returned (.string x)) (name_bytes hnm.out (form_map k (.inr (.inl (by assumption)))))
              | exact congrArg (fun x => Ending.returned (.string x)) (name_bytes hnm.out (form_map k (.inr (.inr (.inl (by assumption))))))
              | exact congrArg (fun x => Ending.returned (.string x)) (name_bytes hnm.out (form_map k (.inr (.inr (.inr (by assumption))))))
              | exact congrArg (fun x => Ending.returned (.string x)) (name_bytes hnm.out (form_bin k (by assumption)))
              | exact congrArg (fun x => Ending.returned (.string x)) (name_bytes hnm.out (form_any k (by assumption)))
              | exact congrArg (fun x => Ending.returned (.string x)) (name_bytes hnm.out (form_list k (by assumption) (by assumption) (by assumption) (by assumption) (by assumption) (by assumption)))
          · go_wp2
            go_roundw
            case rel => exact ⟨w2, seen.push e.born, hal3, rfl, hny.out (fun h => h2 h.2)⟩
            case measure => exact hm.out
        · go_wp2
          go_roundw
          case rel => exact ⟨w2, seen.push e.born, hal3, rfl, hny.out (fun h => h1 h.1)⟩
          case measure => exact hm.out
end Go.Proofs.YtfoiaiblggapeaaGreatDoor.Nm
