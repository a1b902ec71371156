/-
  lentState: a state is lent. No condition but that it lies so and is not great.
-/
import Derived.Test.YtckggmcjcdkfhaaGreatDoorS5
namespace Go.Proofs.YtckggmcjcdkfhaaGreatDoor.Va
open Go Go.RowKit Go.Proofs.Nu

theorem store_slice {w : World} {b o : Nat} {a : Option Addr} {n c : Nat} {u : Value} (hc : w.cell? ⟨b, o, none⟩ = some u) (hf : w.frozen? ⟨b, o, none⟩ = false) : (Instr.storeAt 28 (.pointer (some ⟨b, o, none⟩)) (.slice a n c)).run Tryz.prog w = .ok () (w.setCells b o [.slice a n c]) := by
  have := Tryz.underlying28
  have := Tryz.sizeOf28
  show _ = Result.ok () (w.setCell ⟨b, o, none⟩ (.slice a n c))
  go_simp
attribute [-go_sem] Go.Instr.loadAt Go.Instr.storeAt
noncomputable def infoS : TypeInfo := match Tryz.prog.info? 30 with | some i => i | none => default
theorem info_s : Tryz.prog.info? 30 = some infoS := by kernel_rfl
theorem infoS_zero : infoS.zero.isSome = true := by kernel_rfl
theorem infoS_size : infoS.size = 19 := by kernel_rfl
theorem infoS_bytes : infoS.bytes ≤ 4096 := of_decide_eq_true (by kernel_rfl)
theorem make_states (w : World) (n : Nat) (hn : n ≤ 10000) : ∃ C : Array Value, C.size = (n + 2) * 19 ∧ (Instr.makeSlice 28 (.int .i64 (n + 2)) (.int .i64 (n + 2))).run Tryz.prog w = .ok (.slice (some ⟨w.heap.size, 0, none⟩) (n + 2) (n + 2)) (w.alloc (.cells C 30)) := by
  obtain ⟨z, hz⟩ := Option.isSome_iff_exists.1 infoS_zero
  have := run_make (P := Tryz.prog) w 28 30 infoS _ Tryz.underlying28 info_s hz .i64 .i64 (n + 2) (n + 2) (by omega) (Int.le_refl _) (by have := infoS_bytes; have : (infoS.bytes : Int) * ((n : Int) + 2) ≤ 4096 * 10002 := Int.mul_le_mul (by omega) (by omega) (by omega) (by omega); omega) (by omega)
  rw [infoS_size] at this
  have e : (((n : Int) + 2).toNat) = n + 2 := by omega
  rw [e] at this
  exact ⟨_, size_madeCells _ _, this⟩
theorem cells_patch {w : World} {b : Nat} {pre mid mid' post : List Value} (h : Cells w b 0 (pre ++ (mid ++ post))) (hl : mid'.length = mid.length) : Cells (w.setCells b pre.length mid') b 0 (pre ++ (mid' ++ post)) := by
  have h1 := cells_left h
  have h2 := cells_left (cells_right h)
  have h3 := cells_right (cells_right h)
  have hh := cells_has h
  rw [Nat.zero_add] at h2 h3
  refine cells_app (setCells_keep h1 (.inr (.inl (by omega)))) ?_
  rw [Nat.zero_add]
  refine cells_app (hh.setC (by simp; omega)) ?_
  rw [hl]
  exact setCells_keep h3 (.inr (.inr (by omega)))
def spre3 (s : ST) : List Value := [.int .i64 s.kind, .int .i64 s.section_, .int .i64 s.offset]
def spost3 (s : ST) (al lv : Value) : List Value := [.bool s.failed, .bool s.elsewhere, .int .i64 s.ann.kind, .int .u64 s.ann.num, .string s.ann.text, al, .int .i64 s.ann.elem, .string s.txn, lv]
def spre12 (s : ST) (il : Value) : List Value := [.int .i64 s.kind, .int .i64 s.section_, .int .i64 s.offset, .string s.cond, .string s.text, .int .i64 s.info.kind, .int .u64 s.info.num, .string s.info.text, il, .int .i64 s.info.elem, .bool s.failed, .bool s.elsewhere]
def spost12 (s : ST) (lv : Value) : List Value := [.string s.txn, lv]
def spre18 (s : ST) (il al : Value) : List Value := [.int .i64 s.kind, .int .i64 s.section_, .int .i64 s.offset, .string s.cond, .string s.text, .int .i64 s.info.kind, .int .u64 s.info.num, .string s.info.text, il, .int .i64 s.info.elem, .bool s.failed, .bool s.elsewhere, .int .i64 s.ann.kind, .int .u64 s.ann.num, .string s.ann.text, al, .int .i64 s.ann.elem, .string s.txn]
theorem split3 (s : ST) (il al lv : Value) : s.cells il al lv = spre3 s ++ (fcells s.cond s.text s.info il ++ spost3 s al lv) := rfl
theorem split12 (s : ST) (il al lv : Value) : s.cells il al lv = spre12 s il ++ (s.ann.cells al ++ spost12 s lv) := rfl
theorem split18 (s : ST) (il al lv : Value) : s.cells il al lv = spre18 s il al ++ ([lv] ++ []) := rfl
theorem patch_info {w : World} {b : Nat} {s : ST} {il il' al lv : Value} (h : Cells w b 0 (s.cells il al lv)) : Cells (w.setCells b 3 (fcells s.cond s.text s.info il')) b 0 (s.cells il' al lv) := by
  rw [split3] at h ⊢
  have k := cells_patch (mid' := fcells s.cond s.text s.info il') h rfl
  rw [show (spre3 s).length = 3 from rfl] at k
  exact k
theorem patch_ann {w : World} {b : Nat} {s : ST} {il al al' lv : Value} (h : Cells w b 0 (s.cells il al lv)) : Cells (w.setCells b 12 (s.ann.cells al')) b 0 (s.cells il al' lv) := by
  rw [split12] at h ⊢
  have k := cells_patch (mid' := s.ann.cells al') h rfl
  rw [show (spre12 s il).length = 12 from rfl] at k
  exact k
theorem patch_inner {w : World} {b : Nat} {s : ST} {il al lv lv' : Value} (h : Cells w b 0 (s.cells il al lv)) : Cells (w.setCells b 18 [lv']) b 0 (s.cells il al lv') := by
  rw [split18] at h ⊢
  have k := cells_patch (mid' := [lv']) h rfl
  rw [show (spre18 s il al).length = 18 from rfl] at k
  exact k
theorem cells_fault {w : World} {b o : Nat} {s : ST} {il al lv : Value} (h : Cells w b o (s.cells il al lv)) : Cells w b (o + 3) (fcells s.cond s.text s.info il) := by
  rw [split3] at h
  have k := cells_left (cells_right h)
  rw [show (spre3 s).length = 3 from rfl] at k
  exact k
theorem cells_ann {w : World} {b o : Nat} {s : ST} {il al lv : Value} (h : Cells w b o (s.cells il al lv)) : Cells w b (o + 12) (s.ann.cells al) := by
  rw [split12] at h
  have k := cells_left (cells_right h)
  rw [show (spre12 s il).length = 12 from rfl] at k
  exact k
theorem store_state {w : World} {b o : Nat} {s : ST} {a1 a2 a3 : Option Addr} {n1 c1 n2 c2 n3 c3 : Nat} (h : w.there b o 19) : (Instr.storeAt 30 (.pointer (some ⟨b, o, none⟩)) (s.agg (.slice a1 n1 c1) (.slice a2 n2 c2) (.slice a3 n3 c3))).run Tryz.prog w = .ok () (w.setCells b o (s.cells (.slice a1 n1 c1) (.slice a2 n2 c2) (.slice a3 n3 c3))) :=
  Go.run_storeAt_mid w b o 30 (s.cells (.slice a1 n1 c1) (.slice a2 n2 c2) (.slice a3 n3 c3)).toArray h (by kernel_rfl) (by simp [ST.cells, Value.oneCell'])
theorem loadVar_state {w : World} {b o : Nat} {s : ST} {il al lv : Value} (h : Cells w b o (s.cells il al lv)) : (loadVar 30 ⟨b, o, none⟩).run Tryz.prog w = .ok (s.agg il al lv) w :=
  Go.run_loadVar_mid w b o 30 (s.cells il al lv) _ h Tryz.underlying30 rfl (by kernel_rfl)
/-- The zero state, but for its kind. -/
def zeroS (k : Int) : ST := .mk k 0 0 ⟨#[]⟩ ⟨#[]⟩ (.mk 0 0 ⟨#[]⟩ 0 []) false false (.mk 0 0 ⟨#[]⟩ 0 []) ⟨#[]⟩ []
abbrev nilV : Value := .slice none 0 0

abbrev lentSl (b n : Nat) : Value := .slice (some ⟨b, 0, none⟩) n (n + 3)
abbrev lentSS (b n : Nat) : Value := .slice (some ⟨b, 0, none⟩) n (n + 2)
def LsS (n : Nat) : Prop := ∀ (B N : Nat) (s : ST) (il al lv : Value) (w : World), s.Fine → LAt B w N il s.info.list → LAt B w N al s.ann.list → SAt B N w n lv s.inner → Sms s.info.list → Sms s.ann.list → Ssm s.inner → B ≤ w.heap.size →
    Calls Tryz.prog 11 #[s.agg il al lv] w fun r w' => ∃ bi ba bl m1 m2, r = .returned (s.agg (lentSl bi s.info.list.length) (lentSl ba s.ann.list.length) (lentSS bl s.inner.length)) ∧
      LentAt w' N w.heap.size m1 (lentSl bi s.info.list.length) s.info.list ∧ LentAt w' N m1 m2 (lentSl ba s.ann.list.length) s.ann.list ∧ SLent w' N n m2 w'.heap.size (lentSS bl s.inner.length) s.inner ∧ Below w.heap.size w w'
set_option maxRecDepth 100000 in
set_option maxHeartbeats 4000000 in
theorem lentStates : ∀ n, LsS n := by
  intro n
  induction n with
  | zero => intro B N s il al lv w _ _ _ h; exact h.elim
  | succ n ih =>
    intro B N s il al lv w hf hil hal hlv si sa ss hB
    have HS := Lib.hid ih
    have HL := Lib.hid hlv
    have HSM := Lib.hid ss
    obtain ⟨p, c, rfl⟩ := hlv.slice
    have hlen : s.inner.length ≤ 10000 := ss.len
    obtain ⟨W1, hW1⟩ : ∃ W1, (w.alloc (.cells #[.int .i64 s.kind, .int .i64 s.section_, .int .i64 s.offset, .string s.cond, .string s.text, .int .i64 s.info.kind, .int .u64 s.info.num, .string s.info.text, il, .int .i64 s.info.elem, .bool s.failed, .bool s.elsewhere, .int .i64 s.ann.kind, .int .u64 s.ann.num, .string s.ann.text, al, .int .i64 s.ann.elem, .string s.txn, .slice p s.inner.length c] 30)).alloc (.cells #[.int .i64 0, .int .i64 0, .int .i64 0, .string ⟨#[]⟩, .string ⟨#[]⟩, .int .i64 0, .int .u64 0, .string ⟨#[]⟩, .slice none 0 0, .int .i64 0, .bool false, .bool false, .int .i64 0, .int .u64 0, .string ⟨#[]⟩, .slice none 0 0, .int .i64 0, .string ⟨#[]⟩, .slice none 0 0] 30) = W1 := ⟨_, rfl⟩
    have HK : Hid (∀ w2, Below (w.heap.size + 2) W1 w2 → Cells w2 w.heap.size 0 (s.cells il al (.slice p s.inner.length c)) ∧ Cells w2 (w.heap.size + 1) 0 ((zeroS 0).cells nilV nilV nilV) ∧ (∀ j, w2.frozen? ⟨w.heap.size, j, none⟩ = false) ∧ (∀ j, w2.frozen? ⟨w.heap.size + 1, j, none⟩ = false) ∧ Below w.heap.size w w2 ∧ w.heap.size + 2 ≤ w2.heap.size) := fun w2 h => two_cells (cs := s.cells il al (.slice p s.inner.length c)) (ds := (zeroS 0).cells nilV nilV nilV) (T := 30) (by rw [← hW1] at h; exact h)
    obtain ⟨k1, _, _, _, kb1, ks1⟩ := HK.out W1 (Below.refl _ _)
    have hz1 : W1.heap.size = w.heap.size + 2 := by rw [← hW1, heap_alloc_size, heap_alloc_size]
    have hld1 := load_fault (o := 3) (cells_fault (s := s) k1)
    have HC := Lib.hid (lentF_any s.cond s.text s.info il W1 (hil.below (kb1.mono hB)) si (by omega))
    have HAL : Hid (∀ w', Below w.heap.size w w' → Calls Tryz.prog 35 #[.agg #[.int .i64 s.ann.kind, .int .u64 s.ann.num, .string s.ann.text, al, .int .i64 s.ann.elem]] w' fun r w'' => ∃ v', r = .returned (.agg #[.int .i64 s.ann.kind, .int .u64 s.ann.num, .string s.ann.text, v', .int .i64 s.ann.elem]) ∧ LentAt w'' N w'.heap.size w''.heap.size v' s.ann.list ∧ Below w'.heap.size w' w'') := fun w' h => lent_of (lents N) B s.ann.kind s.ann.num s.ann.text s.ann.elem s.ann.list al w' (hal.below (h.mono hB)) sa (Nat.le_trans hB h.size)
    clear k1 kb1 ks1 hil hal hlv si sa ss ih hf
    go_enter Tryz.func11, Tryz.ntmps11
    go_wp2_with (fail)
    clear hW1 hld1
    refine HC.out.mono ?_
    rintro r w2 ⟨bi, rfl, hLi, hb2⟩
    obtain ⟨c1, c2, f1, f2, kb, ks⟩ := HK.out w2 (hb2.mono (by omega))
    have n1 := cells_has c1
    have hst1 := store_fault (x := s.cond) (t := s.text) (i := s.info) (a := some ⟨bi, 0, none⟩) (n := s.info.list.length) (c := s.info.list.length + 3) (n1.there f1 (o := 3) (n := 7) (by rw [scells_len]; omega))
    have x1 : Cells (w2.setCells w.heap.size 3 (fcells s.cond s.text s.info (lentSl bi s.info.list.length))) w.heap.size 0 (s.cells (lentSl bi s.info.list.length) al (.slice p s.inner.length c)) :=
      patch_info c1
    have x2 := setCells_keep (b := w.heap.size) (o := 3) (vs := fcells s.cond s.text s.info (lentSl bi s.info.list.length)) c2 (.inl (by omega))
    have xf1 : ∀ j, (w2.setCells w.heap.size 3 (fcells s.cond s.text s.info (lentSl bi s.info.list.length))).frozen? ⟨w.heap.size, j, none⟩ = false := fun j => (World.frozen?_setCells _ _ _ _ _).trans (f1 j)
    have xf2 : ∀ j, (w2.setCells w.heap.size 3 (fcells s.cond s.text s.info (lentSl bi s.info.list.length))).frozen? ⟨w.heap.size + 1, j, none⟩ = false := fun j => (World.frozen?_setCells _ _ _ _ _).trans (f2 j)
    have xb := setCells_below (B := w.heap.size) (Nat.le_refl w.heap.size) (fcells s.cond s.text s.info (lentSl bi s.info.list.length)) 3 w2 kb
    have xa := setCells_apart (lo := w.heap.size) (hi := w.heap.size + 2) (b := w.heap.size) (Nat.le_refl _) (by omega) (fcells s.cond s.text s.info (lentSl bi s.info.list.length)) 3 w2 (Apart.refl _ _ w2)
    have xz := setCells_size w2 w.heap.size (fcells s.cond s.text s.info (lentSl bi s.info.list.length)) 3 w2
    generalize w2.setCells w.heap.size 3 (fcells s.cond s.text s.info (lentSl bi s.info.list.length)) = X at *
    have hLi1 : LentAt X N (w.heap.size + 2) X.heap.size (lentSl bi s.info.list.length) s.info.list := by
      rw [xz]; exact (hLi.apart xa (Nat.le_refl _) (.inr (by omega))).lo (by omega)
    have hld2 : (Instr.loadAt 25 (.pointer (some ⟨w.heap.size, 12, none⟩))).run Tryz.prog X = .ok (.agg #[.int .i64 s.ann.kind, .int .u64 s.ann.num, .string s.ann.text, al, .int .i64 s.ann.elem]) X := load_value (o := 12) (cells_ann (s := s) x1)
    have HA2 := Lib.hid (HAL.out X xb)
    have HX := Lib.hid (show Cells X w.heap.size 0 (s.cells (lentSl bi s.info.list.length) al (.slice p s.inner.length c)) ∧ Cells X (w.heap.size + 1) 0 ((zeroS 0).cells nilV nilV nilV) ∧ (∀ j, X.frozen? ⟨w.heap.size, j, none⟩ = false) ∧ (∀ j, X.frozen? ⟨w.heap.size + 1, j, none⟩ = false) ∧ Below w.heap.size w X ∧ LentAt X N (w.heap.size + 2) X.heap.size (lentSl bi s.info.list.length) s.info.list from ⟨x1, x2, xf1, xf2, xb, hLi1⟩)
    have hzX : Hid (w.heap.size + 2 ≤ X.heap.size) := by show _ ≤ _; rw [xz]; exact ks
    clear c1 c2 f1 f2 kb ks n1 x1 x2 xf1 xf2 xb xa xz hLi hLi1 hb2 HAL HC hz1 HK
    go_wp2_with (fail)
    clear hst1 hld2
    obtain ⟨m, hm⟩ : ∃ m, s.inner.length = m := ⟨_, rfl⟩
    have Hm := Lib.hid hm
    rw [hm] at hlen HL HX ⊢
    clear hm
    refine HA2.out.mono ?_
    rintro r w3 ⟨v3, rfl, hLa, hb3⟩
    obtain ⟨ba, hv3⟩ := hLa.form
    subst hv3
    have hzX' := hzX.out
    obtain ⟨x1, x2, xf1, xf2, xb, xl⟩ := HX.out
    have c1 := x1.below hb3 (by omega)
    have c2 := x2.below hb3 (by omega)
    have f1 : ∀ j, w3.frozen? ⟨w.heap.size, j, none⟩ = false := fun j => (hb3.frozen (p := ⟨w.heap.size, j, none⟩) (by show w.heap.size < _; omega)).trans (xf1 j)
    have f2 : ∀ j, w3.frozen? ⟨w.heap.size + 1, j, none⟩ = false := fun j => (hb3.frozen (p := ⟨w.heap.size + 1, j, none⟩) (by show w.heap.size + 1 < _; omega)).trans (xf2 j)
    have n1 := cells_has c1
    have hst2 := store_value (t := s.ann) (a := some ⟨ba, 0, none⟩) (n := s.ann.list.length) (c := s.ann.list.length + 3) (n1.there f1 (o := 12) (n := 5) (by rw [scells_len]; omega))
    have y1 := patch_ann (al' := lentSl ba s.ann.list.length) c1
    have y2 := setCells_keep (b := w.heap.size) (o := 12) (vs := s.ann.cells (lentSl ba s.ann.list.length)) c2 (.inl (by omega))
    have yf1 : ∀ j, (w3.setCells w.heap.size 12 (s.ann.cells (lentSl ba s.ann.list.length))).frozen? ⟨w.heap.size, j, none⟩ = false := fun j => (World.frozen?_setCells _ _ _ _ _).trans (f1 j)
    have yf2 : ∀ j, (w3.setCells w.heap.size 12 (s.ann.cells (lentSl ba s.ann.list.length))).frozen? ⟨w.heap.size + 1, j, none⟩ = false := fun j => (World.frozen?_setCells _ _ _ _ _).trans (f2 j)
    have yb := setCells_below (B := w.heap.size) (Nat.le_refl w.heap.size) (s.ann.cells (lentSl ba s.ann.list.length)) 12 w3 (xb.trans (hb3.mono (by omega)))
    have ya := setCells_apart (lo := w.heap.size) (hi := w.heap.size + 1) (b := w.heap.size) (Nat.le_refl _) (by omega) (s.ann.cells (lentSl ba s.ann.list.length)) 12 w3 (Apart.refl _ _ w3)
    have yz := setCells_size w3 w.heap.size (s.ann.cells (lentSl ba s.ann.list.length)) 12 w3
    have hs3 := hb3.size
    have hLi2 : LentAt (w3.setCells w.heap.size 12 (s.ann.cells (lentSl ba s.ann.list.length))) N (w.heap.size + 2) X.heap.size (lentSl bi s.info.list.length) s.info.list := ((xl.below (Nat.le_refl _) hb3).apart ya hs3 (.inr (by omega)))
    have hLa2 : LentAt (w3.setCells w.heap.size 12 (s.ann.cells (lentSl ba s.ann.list.length))) N X.heap.size w3.heap.size (lentSl ba s.ann.list.length) s.ann.list := hLa.apart ya (Nat.le_refl _) (.inr (by omega))
    rw [← yz] at hLa2
    have hzY : Hid (w.heap.size + 2 ≤ (w3.setCells w.heap.size 12 (s.ann.cells (lentSl ba s.ann.list.length))).heap.size ∧ X.heap.size ≤ (w3.setCells w.heap.size 12 (s.ann.cells (lentSl ba s.ann.list.length))).heap.size) := by rw [yz]; exact ⟨by omega, hs3⟩
    generalize w3.setCells w.heap.size 12 (s.ann.cells (lentSl ba s.ann.list.length)) = Y at *
    have d18 := y1 18 _ rfl
    rw [Nat.zero_add] at d18
    have hld3 := load_slice d18
    have HY := Lib.hid (show Cells Y w.heap.size 0 (s.cells (lentSl bi s.info.list.length) (lentSl ba s.ann.list.length) (.slice p m c)) ∧ Cells Y (w.heap.size + 1) 0 ((zeroS 0).cells nilV nilV nilV) ∧ (∀ j, Y.frozen? ⟨w.heap.size, j, none⟩ = false) ∧ (∀ j, Y.frozen? ⟨w.heap.size + 1, j, none⟩ = false) ∧ Below w.heap.size w Y ∧ LentAt Y N (w.heap.size + 2) X.heap.size (lentSl bi s.info.list.length) s.info.list ∧ LentAt Y N X.heap.size Y.heap.size (lentSl ba s.ann.list.length) s.ann.list from ⟨y1, y2, yf1, yf2, yb, hLi2, hLa2⟩)
    obtain ⟨C, hC, hmk⟩ := make_states Y m hlen
    have hw2 : IntKind.i64.wrap ((m : Int) + 2) = m + 2 := by rw [IntKind.wrap_i64]; omega
    have HR0 : Hid (SRel Y.heap.size Y (Y.alloc (.cells C 30)) N n 0 s.inner) := SRel.start (by rw [Hm.out]; exact hC)
    clear hC x1 x2 xf1 xf2 xb xl c1 c2 f1 f2 n1 y1 y2 yf1 yf2 yb ya yz hLi2 hLa2 hLa hb3 hs3 hzX' d18 HX HA2
    go_wp2
    clear hmk hst2 hld3
    go_loopw [5] (fun i wr => ∃ (j : Nat), i = .int .i64 j ∧ j ≤ m + 2 ∧ Hid (SRel Y.heap.size Y wr N n j s.inner)) (fun i _ => m + 2 - (intOf i).toNat)
    case atStart => exact ⟨0, rfl, Nat.zero_le _, HR0⟩
    case round =>
      obtain ⟨j, rfl, hj, HR⟩ := hrel
      by_cases hlt : j < m + 2
      · have hlt' : (j : Int) < (m : Int) + 2 := by omega
        have hwj : IntKind.i64.wrap (-7 - (j : Int)) = -7 - j := by rw [IntKind.wrap_i64]; omega
        have hstm : (Instr.storeAt 30 (.pointer (some ⟨Y.heap.size, j * 19, none⟩)) (.agg #[.int .i64 (-7 - (j : Int)), .int .i64 0, .int .i64 0, .string ⟨#[]⟩, .string ⟨#[]⟩, .int .i64 0, .int .u64 0, .string ⟨#[]⟩, .slice none 0 0, .int .i64 0, .bool false, .bool false, .int .i64 0, .int .u64 0, .string ⟨#[]⟩, .slice none 0 0, .int .i64 0, .string ⟨#[]⟩, .slice none 0 0])).run Tryz.prog wr = .ok () (wr.setCells Y.heap.size (j * 19) ((zeroS (-7 - (j : Int))).cells nilV nilV nilV)) :=
          store_state (s := zeroS (-7 - (j : Int))) (HR.out.has.there HR.out.froz (o := j * 19) (n := 19) (by rw [Hm.out]; omega))
        by_cases hjm : j < m
        · rcases HL.out with ⟨h0, _⟩ | ⟨b0, off, c', hp, hbB, _, hel⟩
          · exfalso; have := Hm.out; rw [h0] at this; simp at this; omega
          rw [Hm.out] at hp
          cases hp
          obtain ⟨t, ht⟩ : ∃ t, s.inner[j]? = some t := ⟨_, List.getElem?_eq_getElem (by rw [Hm.out]; exact hjm)⟩
          obtain ⟨tf, il', al', lv', hc, hi', ha', hl'⟩ := hel j t ht
          obtain ⟨sm1, sm2, sm3⟩ := HSM.out.child ht
          have hzY' := hzY.out
          have hbY := HY.out.2.2.2.2.1
          have hbw : Below w.heap.size w wr := hbY.trans (HR.out.keep.mono (by omega))
          have hbZ := setCells_below (B := w.heap.size) (b := Y.heap.size) (by omega) ((zeroS (-7 - (j : Int))).cells nilV nilV nilV) (j * 19) wr hbw
          have hcZ := setCells_keep (b := Y.heap.size) (o := j * 19) (vs := (zeroS (-7 - (j : Int))).cells nilV nilV nilV) (hc.below (hbw.mono hB) hbB) (.inl (by omega))
          have d18 := HY.out.1 18 _ rfl
          rw [Nat.zero_add] at d18
          have d18r : wr.cell? ⟨w.heap.size, 18, none⟩ = some (.slice (some ⟨b0, off, none⟩) m c) := (HR.out.keep.cell (p := ⟨w.heap.size, 18, none⟩) (by show w.heap.size < _; omega)).trans d18
          have d18z := (World.cell?_setCells_out Y.heap.size ((zeroS (-7 - (j : Int))).cells nilV nilV nilV) (j * 19) wr ⟨w.heap.size, 18, none⟩ (fun h _ => absurd h (by show w.heap.size ≠ _; omega))).trans d18r
          have hasZ := HR.out.has.setCells (o := j * 19) (vs := (zeroS (-7 - (j : Int))).cells nilV nilV nilV) (by rw [Hm.out, scells_len]; omega)
          have frZ : ∀ o, (wr.setCells Y.heap.size (j * 19) ((zeroS (-7 - (j : Int))).cells nilV nilV nilV)).frozen? ⟨Y.heap.size, o, none⟩ = false := fun o => (World.frozen?_setCells _ _ _ _ _).trans (HR.out.froz o)
          have szZ := setCells_size wr Y.heap.size ((zeroS (-7 - (j : Int))).cells nilV nilV nilV) (j * 19) wr
          have HP : Hid (∀ (il al lv : Value) (m1 m2 : Nat) (w2 : World), Below (wr.setCells Y.heap.size (j * 19) ((zeroS (-7 - (j : Int))).cells nilV nilV nilV)).heap.size (wr.setCells Y.heap.size (j * 19) ((zeroS (-7 - (j : Int))).cells nilV nilV nilV)) w2 →
              LentAt w2 N (wr.setCells Y.heap.size (j * 19) ((zeroS (-7 - (j : Int))).cells nilV nilV nilV)).heap.size m1 il t.info.list → LentAt w2 N m1 m2 al t.ann.list → SLent w2 N n m2 w2.heap.size lv t.inner →
              SRel Y.heap.size Y (w2.setCells Y.heap.size (j * 19) (t.cells il al lv)) N n (j + 1) s.inner) := fun il al lv m1 m2 w2 h1 h2 h3 h4 => HR.out.part ht tf (scells_len _ _ _ _) h1 h2 h3 h4
          have hltZ := HR.out.lt
          generalize wr.setCells Y.heap.size (j * 19) ((zeroS (-7 - (j : Int))).cells nilV nilV nilV) = Z at *
          rw [← szZ] at hltZ
          have hld4 := load_slice d18z
          have hld5 := load_state hcZ
          have HC := Lib.hid (HS.out B N t il' al' lv' Z tf (hi'.below (hbZ.mono hB)) (ha'.below (hbZ.mono hB)) (hl'.below (hbZ.mono hB)) sm1 sm2 sm3 (Nat.le_trans hB hbZ.size))
          clear hel hc hi' ha' hl' ht tf sm1 sm2 sm3 hbY hbw hbZ hcZ d18 d18r d18z szZ
          have hjm' : (j : Int) < (m : Int) := by omega
          go_wp2_with (fail)
          refine HC.out.mono ?_
          rintro r w4 ⟨bi', ba', bl', m1, m2, rfl, e4, e5, e6, hb4⟩
          have hst4 := store_state (s := t) (a1 := some ⟨bi', 0, none⟩) (n1 := t.info.list.length) (c1 := t.info.list.length + 3) (a2 := some ⟨ba', 0, none⟩) (n2 := t.ann.list.length) (c2 := t.ann.list.length + 3) (a3 := some ⟨bl', 0, none⟩) (n3 := t.inner.length) (c3 := t.inner.length + 2) ((hasZ.below hb4 hltZ).there (fun o => (hb4.frozen (p := ⟨_, o, none⟩) hltZ).trans (frZ o)) (o := j * 19) (n := 19) (by rw [Hm.out]; omega))
          have HR2 := Lib.hid (HP.out _ _ _ _ _ w4 hb4 e4 e5 e6)
          clear e4 e5 e6 hb4 hld4 hld5 hstm hasZ frZ HP hltZ hzY'
          go_wp2
          go_roundw
          case rel => exact ⟨j + 1, by go_num, by omega, HR2.out⟩
          case measure => simp [intOf]; omega
        · have hjm' : ¬ ((j : Int) < (m : Int)) := by omega
          go_wp2
          go_roundw
          case rel => exact ⟨j + 1, by go_num, by omega, HR.out.mark (by rw [Hm.out]; omega) (by rw [Hm.out]; exact hlt) (scells_len _ _ _ _) rfl⟩
          case measure => simp [intOf]; omega
      · obtain rfl : j = m + 2 := by omega
        have hzY' := hzY.out
        obtain ⟨y1, y2, yf1, yf2, yb, hLi, hLa⟩ := HY.out
        have hk := HR.out.keep
        have hks := hk.size
        have c1 := y1.below hk (by omega)
        have c2 := y2.below hk (by omega)
        have f1 : ∀ j, wr.frozen? ⟨w.heap.size, j, none⟩ = false := fun j => (hk.frozen (p := ⟨w.heap.size, j, none⟩) (by show w.heap.size < _; omega)).trans (yf1 j)
        have f2 : ∀ j, wr.frozen? ⟨w.heap.size + 1, j, none⟩ = false := fun j => (hk.frozen (p := ⟨w.heap.size + 1, j, none⟩) (by show w.heap.size + 1 < _; omega)).trans (yf2 j)
        have d18 := c1 18 _ rfl
        rw [Nat.zero_add] at d18
        have hst5 := store_slice (a := some ⟨Y.heap.size, 0, none⟩) (n := m) (c := m + 2) d18 (f1 18)
        have x1 := patch_inner (lv' := lentSS Y.heap.size m) c1
        have x2 := setCells_keep (b := w.heap.size) (o := 18) (vs := [lentSS Y.heap.size m]) c2 (.inl (by omega))
        have xf2 : ∀ j, (wr.setCells w.heap.size 18 [lentSS Y.heap.size m]).frozen? ⟨w.heap.size + 1, j, none⟩ = false := fun j => (World.frozen?_setCells _ _ _ _ _).trans (f2 j)
        have xb := setCells_below (B := w.heap.size) (Nat.le_refl w.heap.size) [lentSS Y.heap.size m] 18 wr (yb.trans (hk.mono (by omega)))
        have xa := setCells_apart (lo := w.heap.size) (hi := w.heap.size + 2) (b := w.heap.size) (Nat.le_refl _) (by omega) [lentSS Y.heap.size m] 18 wr (Apart.refl _ _ wr)
        have xz := setCells_size wr w.heap.size [lentSS Y.heap.size m] 18 wr
        have hD : SLent wr N (n + 1) Y.heap.size wr.heap.size (lentSS Y.heap.size m) s.inner := by
          have h := HR.out
          rw [← Hm.out] at h ⊢
          exact h.done (by rw [Hm.out]; exact hlen)
        have hLi3 := (hLi.apart (x := Y.heap.size) (y := Y.heap.size) (Apart.of_below hk (Nat.le_refl _)) (by omega) (.inl (by omega)))
        have hLa3 := hLa.below (Nat.le_refl _) hk
        generalize wr.setCells w.heap.size 18 [lentSS Y.heap.size m] = V at *
        have hld6 := load_state x1
        have n2 := cells_has x2
        have hst6 := store_state (s := s) (a1 := some ⟨bi, 0, none⟩) (n1 := s.info.list.length) (c1 := s.info.list.length + 3) (a2 := some ⟨ba, 0, none⟩) (n2 := s.ann.list.length) (c2 := s.ann.list.length + 3) (a3 := some ⟨Y.heap.size, 0, none⟩) (n3 := m) (c3 := m + 2) (n2.there xf2 (o := 0) (n := 19) (Nat.le_refl _))
        have z1 : Cells (V.setCells (w.heap.size + 1) 0 (s.cells (lentSl bi s.info.list.length) (lentSl ba s.ann.list.length) (lentSS Y.heap.size m))) (w.heap.size + 1) 0 (s.cells (lentSl bi s.info.list.length) (lentSl ba s.ann.list.length) (lentSS Y.heap.size m)) := n2.setC (Nat.le_refl _)
        have zb := setCells_below (B := w.heap.size) (b := w.heap.size + 1) (Nat.le_succ _) (s.cells (lentSl bi s.info.list.length) (lentSl ba s.ann.list.length) (lentSS Y.heap.size m)) 0 V xb
        have za := setCells_apart (lo := w.heap.size) (hi := w.heap.size + 2) (b := w.heap.size + 1) (by omega) (by omega) (s.cells (lentSl bi s.info.list.length) (lentSl ba s.ann.list.length) (lentSS Y.heap.size m)) 0 V xa
        have zz := setCells_size V (w.heap.size + 1) (s.cells (lentSl bi s.info.list.length) (lentSl ba s.ann.list.length) (lentSS Y.heap.size m)) 0 V
        generalize V.setCells (w.heap.size + 1) 0 (s.cells (lentSl bi s.info.list.length) (lentSl ba s.ann.list.length) (lentSS Y.heap.size m)) = U at *
        have HU := Lib.hid (loadVar_state z1)
        have HR9 : Hid (LentAt U N w.heap.size X.heap.size (lentSl bi s.info.list.length) s.info.list ∧ LentAt U N X.heap.size Y.heap.size (lentSl ba s.ann.list.length) s.ann.list ∧ SLent U N (n + 1) Y.heap.size U.heap.size (lentSS Y.heap.size m) s.inner ∧ Below w.heap.size w U) := by
          refine ⟨(hLi3.apart za (by omega) (.inr (Nat.le_refl _))).lo (by omega), hLa3.apart za (by omega) (.inr (by have := hLi3.le; omega)), ?_, zb⟩
          rw [zz, xz]
          exact hD.apart za (Nat.le_refl _) (.inr (by omega))
        clear y1 y2 yf1 yf2 yb hLi hLa hk hks c1 c2 f1 f2 d18 x1 x2 xf2 xb xa xz hD hLi3 hLa3 n2 z1 zb za zz hzY'
        go_wp2
        exact bodyPost_ret_by (results_mid rfl rfl HU.out) rfl (by rw [Hm.out]; exact ⟨bi, ba, Y.heap.size, X.heap.size, Y.heap.size, rfl, HR9.out.1, HR9.out.2.1, HR9.out.2.2.1, HR9.out.2.2.2⟩)
end Go.Proofs.YtckggmcjcdkfhaaGreatDoor.Va
