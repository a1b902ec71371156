/-
  The program's got: its walk. No condition but the reach and what the maps hold.
-/
import Derived.Test.YtgincippgaecfaaJ12
namespace Go.Proofs.Ytgincippgaecfaa.Au
open Go Go.RowKit

/-- What got answers, of the entries that were sent of the message and how often it was given back. -/
noncomputable def gotA (qs : List Qc) (l : List Ent) (nb : Int) (e : Ent) : Nat :=
  if l = [] then 2 else if (beginsB e.queue.toList queueB && !l.any fun x => leadsB qs x.queue.toList e.queue.toList) = true then 3
  else if (!l.any fun x => x.dur == e.dur) = true then 4 else if nb < e.count then 5 else 0

theorem gotA_2 {qs : List Qc} {nb : Int} {e : Ent} : gotA qs [] nb e = 2 := by simp [gotA]
theorem gotA_3 {qs : List Qc} {l : List Ent} {nb : Int} {e : Ent} (h0 : ¬ l = []) (h1 : beginsB e.queue.toList queueB = true) (h2 : (l.any fun x => leadsB qs x.queue.toList e.queue.toList) = false) : gotA qs l nb e = 3 := by
  unfold gotA; rw [if_neg h0, h1, h2]; rfl
theorem gotA_4 {qs : List Qc} {l : List Ent} {nb : Int} {e : Ent} {x y : Bool} (h0 : ¬ l = []) (h1 : beginsB e.queue.toList queueB = x) (h2 : (l.any fun x => leadsB qs x.queue.toList e.queue.toList) = y) (hxy : (x && !y) = false) (h3 : (l.any fun x => x.dur == e.dur) = false) : gotA qs l nb e = 4 := by
  unfold gotA; rw [if_neg h0, h1, h2, hxy, h3]; rfl
theorem gotA_5 {qs : List Qc} {l : List Ent} {nb : Int} {e : Ent} {x y : Bool} (h0 : ¬ l = []) (h1 : beginsB e.queue.toList queueB = x) (h2 : (l.any fun x => leadsB qs x.queue.toList e.queue.toList) = y) (hxy : (x && !y) = false) (h3 : (l.any fun x => x.dur == e.dur) = true) (h4 : nb < e.count) : gotA qs l nb e = 5 := by
  unfold gotA; rw [if_neg h0, h1, h2, hxy, h3, if_pos h4]; rfl
theorem gotA_0 {qs : List Qc} {l : List Ent} {nb : Int} {e : Ent} {x y : Bool} (h0 : ¬ l = []) (h1 : beginsB e.queue.toList queueB = x) (h2 : (l.any fun x => leadsB qs x.queue.toList e.queue.toList) = y) (hxy : (x && !y) = false) (h3 : (l.any fun x => x.dur == e.dur) = true) (h4 : ¬ nb < e.count) : gotA qs l nb e = 0 := by
  unfold gotA; rw [if_neg h0, h1, h2, hxy, h3, if_neg h4]; rfl
theorem not_nil_size {l : List Ent} (h : ¬ l = []) : 1 ≤ l.length := by
  cases l with
  | nil => exact absurd rfl h
  | cons a l => simp

set_option maxRecDepth 100000 in
set_option maxHeartbeats 8000000 in
theorem pgot_any (base hd N jb sb kb Ns Nk : Nat) (fd fs fk : Value → Value) (qs : List Qc) (l : List Ent) (nb : Int) (e : Ent) (w : World) (hq : qs.length * 56 ≤ 140737488351232) (hj0 : w.cell? ⟨jb, 0, none⟩ = some (.map (some hd))) (hj3 : w.cell? ⟨jb, 3, none⟩ = some (.map (some sb)))
    (hj4 : w.cell? ⟨jb, 4, none⟩ = some (.map (some kb))) (hjb : jb < w.heap.size) (hD : DeadAt base w hd N fd qs) (hS : MapV w 3 sb Ns (.slice none 0 0) fs) (hSl : HistAt w.heap.size w (fs (.int .i64 e.msg)) l) (hK : MapV w 3 kb Nk (.int .i64 0) fk) (hKv : fk (.int .i64 e.msg) = .int .i64 nb)
    (hsz : ∀ x ∈ l, x.queue.size ≤ maxLen) (hl : l.length ≤ 400) (hm : (Lit.int .i64 e.msg).wf = true) :
    Calls Try.prog 39 #[.pointer (some ⟨jb, 0, none⟩), e.val] w fun r w' => r = .returned (.int .i64 (gotA qs l nb e)) ∧ Below w.heap.size w w' := by
  obtain ⟨ek, ew, eq, em, ec, ed⟩ := e
  obtain ⟨a, cap, hfs⟩ := hSl.len
  rw [hfs] at hSl
  simp only at hfs hKv hm
  have hB2 : Below w.heap.size w ((w.alloc (.cells #[.pointer (some ⟨jb, 0, none⟩)] 58)).alloc (.cells #[.int .i64 ek, .int .i64 ew, .string eq, .int .i64 em, .int .i64 ec, .bool ed] 55)) := ((Below.refl _ w).alloc (Nat.le_refl _) _).alloc (by simp) _
  have c0 : ((w.alloc (.cells #[.pointer (some ⟨jb, 0, none⟩)] 58)).alloc (.cells #[.int .i64 ek, .int .i64 ew, .string eq, .int .i64 em, .int .i64 ec, .bool ed] 55)).cell? ⟨w.heap.size, 0, none⟩ = some (.pointer (some ⟨jb, 0, none⟩)) :=
    (((Below.refl _ _).alloc (Nat.le_refl _) _).cell (p := ⟨w.heap.size, 0, none⟩) (by simp)).trans (by simp)
  have c2 : ((w.alloc (.cells #[.pointer (some ⟨jb, 0, none⟩)] 58)).alloc (.cells #[.int .i64 ek, .int .i64 ew, .string eq, .int .i64 em, .int .i64 ec, .bool ed] 55)).cell? ⟨w.heap.size + 1, 2, none⟩ = some (.string eq) := by
    simp
  have c5 : ((w.alloc (.cells #[.pointer (some ⟨jb, 0, none⟩)] 58)).alloc (.cells #[.int .i64 ek, .int .i64 ew, .string eq, .int .i64 em, .int .i64 ec, .bool ed] 55)).cell? ⟨w.heap.size + 1, 5, none⟩ = some (.bool ed) := by
    simp
  have z2 : ((w.alloc (.cells #[.pointer (some ⟨jb, 0, none⟩)] 58)).alloc (.cells #[.int .i64 ek, .int .i64 ew, .string eq, .int .i64 em, .int .i64 ec, .bool ed] 55)).heap.size = w.heap.size + 2 := by simp
  have h54 : ∀ W, Below (w.heap.size + 2) ((w.alloc (.cells #[.pointer (some ⟨jb, 0, none⟩)] 58)).alloc (.cells #[.int .i64 ek, .int .i64 ew, .string eq, .int .i64 em, .int .i64 ec, .bool ed] 55)) W →
      Calls Try.prog 35 #[.slice a l.length cap, .func (.func 54) #[] #[.pointer (some ⟨w.heap.size, 0, none⟩), .pointer (some ⟨w.heap.size + 1, 0, none⟩)]] W fun r w' => r = .returned (.bool (l.any fun x => leadsB qs x.queue.toList eq.toList)) ∧ Below W.heap.size W w' := fun W hW => by
    have hWs := hW.size
    rw [z2] at hWs
    have hW0 := hB2.trans (hW.mono (by omega))
    refine contains54_any _ _ w.heap.size _ l _ W hl (hSl.below hW0) (by omega) fun W' hW' x hx => ?_
    have h1 := hW0.trans (hW'.mono (by omega))
    have h2 := hW.trans (hW'.mono (by omega))
    have := hW'.size
    exact got1_any base hd N jb _ _ fd qs x eq W' hq ((h1.cell (p := ⟨jb, 0, none⟩) hjb).trans hj0) (by omega) (hD.below h1) (hsz x hx) ((h2.cell (p := ⟨w.heap.size, 0, none⟩) (by simp)).trans c0) ((h2.cell (p := ⟨w.heap.size + 1, 2, none⟩) (by simp)).trans c2) (by omega) (by omega)
  have h56 : ∀ W, Below (w.heap.size + 2) ((w.alloc (.cells #[.pointer (some ⟨jb, 0, none⟩)] 58)).alloc (.cells #[.int .i64 ek, .int .i64 ew, .string eq, .int .i64 em, .int .i64 ec, .bool ed] 55)) W →
      Calls Try.prog 35 #[.slice a l.length cap, .func (.func 56) #[] #[.pointer (some ⟨w.heap.size + 1, 0, none⟩)]] W fun r w' => r = .returned (.bool (l.any fun x => x.dur == ed)) ∧ Below W.heap.size W w' := fun W hW => by
    have hWs := hW.size
    rw [z2] at hWs
    have hW0 := hB2.trans (hW.mono (by omega))
    refine contains56_any _ w.heap.size _ l _ W hl (hSl.below hW0) (by omega) fun W' hW' x hx => ?_
    have h2 := hW.trans (hW'.mono (by omega))
    have := hW'.size
    exact got2_any _ x ed W' ((h2.cell (p := ⟨w.heap.size + 1, 5, none⟩) (by simp)).trans c5) (by omega)
  have hp := fun W => prefix53_any eq queueA W
  unfold queueA at hp
  have hpq : beginsB eq.toList (⟨#[113, 117, 101, 117, 101, 47]⟩ : ByteArray).toList = beginsB eq.toList queueB := by rw [← queueA_list]; rfl
  simp only [hpq] at hp
  have hlk : ∀ n, (Instr.lookup 62 (.map (some sb)) (.int .i64 em) false).run Try.prog (((w.alloc (.cells #[.pointer (some ⟨jb, 0, none⟩)] 58)).alloc (.cells #[.int .i64 ek, .int .i64 ew, .string eq, .int .i64 em, .int .i64 ec, .bool ed] 55)).drewN n) = .ok (.slice a l.length cap) (((w.alloc (.cells #[.pointer (some ⟨jb, 0, none⟩)] 58)).alloc (.cells #[.int .i64 ek, .int .i64 ew, .string eq, .int .i64 em, .int .i64 ec, .bool ed] 55)).drewN n) := fun n => by
    have := ((hS.below hB2 hS.lt).at_block (W' := ((w.alloc (.cells #[.pointer (some ⟨jb, 0, none⟩)] 58)).alloc (.cells #[.int .i64 ek, .int .i64 ew, .string eq, .int .i64 em, .int .i64 ec, .bool ed] 55)).drewN n) rfl).look keyed3 Try.underlying62 (zero23 _) (key3 hm)
    rwa [hfs] at this
  have cj3 := (hB2.cell (p := ⟨jb, 3, none⟩) hjb).trans hj3
  have hK2 : ∀ W, Below (w.heap.size + 2) ((w.alloc (.cells #[.pointer (some ⟨jb, 0, none⟩)] 58)).alloc (.cells #[.int .i64 ek, .int .i64 ew, .string eq, .int .i64 em, .int .i64 ec, .bool ed] 55)) W →
      (∀ n, (Instr.lookup 64 (.map (some kb)) (.int .i64 em) false).run Try.prog (W.drewN n) = .ok (.int .i64 nb) (W.drewN n)) ∧ W.cell? ⟨w.heap.size, 0, none⟩ = some (.pointer (some ⟨jb, 0, none⟩)) ∧ W.cell? ⟨w.heap.size + 1, 3, none⟩ = some (.int .i64 em) ∧ W.cell? ⟨w.heap.size + 1, 4, none⟩ = some (.int .i64 ec) ∧ W.cell? ⟨jb, 4, none⟩ = some (.map (some kb)) := fun W hW => by
    have hW0 := hB2.trans (hW.mono (by omega))
    refine ⟨fun n => ?_, (hW.cell (p := ⟨w.heap.size, 0, none⟩) (by simp)).trans c0, (hW.cell (p := ⟨w.heap.size + 1, 3, none⟩) (by simp)).trans ?_, (hW.cell (p := ⟨w.heap.size + 1, 4, none⟩) (by simp)).trans ?_, (hW0.cell (p := ⟨jb, 4, none⟩) hjb).trans hj4⟩
    · have := ((hK.below hW0 hK.lt).at_block (W' := W.drewN n) rfl).look keyed3 Try.underlying64 (zero3 _) (key3 hm)
      rwa [hKv] at this
    · simp
    · simp
  have HK2 := Lib.hid hK2
  have HB2 := Lib.hid hB2
  have Hz2 := Lib.hid z2
  clear hD hj0 hj4 hS hSl hK hKv hm hsz hfs hK2 hB2 z2 c2 c5 hpq hq hj3 c0
  by_cases hl0 : l = []
  · subst hl0
    clear h54 h56 hp
    go_enter Try.func39, Try.ntmps39
    go_wp2
    go_quiet (fail)
    go_wp2
    go_ret
    exact ⟨ret_int (by rw [gotA_2]; rfl), below_drewN HB2.out _⟩
  · have HL := Lib.hid hl0
    have hl1 := not_nil_size hl0
    have hl2 : (l.length : Int) ≤ 400 := by omega
    have hl3 : ¬ (l.length : Int) = 0 := by omega
    clear hl0
    obtain ⟨x, hx⟩ : ∃ x, beginsB eq.toList queueB = x := ⟨_, rfl⟩
    obtain ⟨y, hy⟩ : ∃ y, (l.any fun x => leadsB qs x.queue.toList eq.toList) = y := ⟨_, rfl⟩
    obtain ⟨z, hz⟩ : ∃ z, (l.any fun x => x.dur == ed) = z := ⟨_, rfl⟩
    rw [hy] at h54
    rw [hz] at h56
    rw [hx] at hp
    have HX := Lib.hid hx
    have HY := Lib.hid hy
    have HZ := Lib.hid hz
    have h54' := fun n => h54 _ (below_drewN (Below.refl _ _) n)
    have H56 := Lib.hid h56
    clear hx hy hz h54 h56
    cases x with
    | true =>
      cases y with
      | false =>
        go_enter Try.func39, Try.ntmps39
        go_wp2
        go_quiet (fail)
        go_wp2_with (first
          | (go_at_call 53; refine (hp _).mono ?_; clear hp; rintro r w2 ⟨rfl, hw2⟩; cases hw2)
          | (go_at_call 35; refine (h54' _).mono ?_; clear h54'; rintro r w4 ⟨rfl, hb4⟩)
          | go_in)
        go_ret
        exact ⟨ret_int (by rw [gotA_3 HL.out HX.out HY.out]; rfl), (below_drewN HB2.out _).trans (hb4.mono (by simp; omega))⟩
      | true =>
        cases z with
        | false =>
          have h56 := H56.out
          go_enter Try.func39, Try.ntmps39
          go_wp2
          go_quiet (fail)
          go_wp2_with (first
            | (go_at_call 53; refine (hp _).mono ?_; clear hp; rintro r w2 ⟨rfl, hw2⟩; cases hw2)
            | (go_at_call 35; refine (h54' _).mono ?_; clear h54'; rintro r w4 ⟨rfl, hb4⟩
               have hB4 := (below_drewN (Below.refl (w.heap.size + 2) _) _).trans (hb4.mono (by simp)); have hS4 := hB4.size; rw [Hz2.out] at hS4; have HS4 := Lib.hid hS4; clear hS4)
            | (go_at_call 35; refine (h56 _ hB4).mono ?_; rintro r w6 ⟨rfl, hb6⟩; have hB6 := hB4.trans (hb6.mono HS4.out); have HB6 := Lib.hid hB6)
            | go_in)
          go_ret
          exact ⟨ret_int (by rw [gotA_4 HL.out HX.out HY.out rfl HZ.out]; rfl), HB2.out.trans (hB6.mono (by omega))⟩
        | true =>
          have h56 := H56.out
          go_enter Try.func39, Try.ntmps39
          go_wp2
          go_quiet (fail)
          go_wp2_with (first
            | (go_at_call 53; refine (hp _).mono ?_; clear hp; rintro r w2 ⟨rfl, hw2⟩; cases hw2)
            | (go_at_call 35; refine (h54' _).mono ?_; clear h54'; rintro r w4 ⟨rfl, hb4⟩
               have hB4 := (below_drewN (Below.refl (w.heap.size + 2) _) _).trans (hb4.mono (by simp)); have hS4 := hB4.size; rw [Hz2.out] at hS4; have HS4 := Lib.hid hS4; clear hS4)
            | (go_at_call 35; refine (h56 _ hB4).mono ?_; rintro r w6 ⟨rfl, hb6⟩; have hB6 := hB4.trans (hb6.mono HS4.out); have HB6 := Lib.hid hB6)
            | go_in)
          obtain ⟨k1, k2, k3, k4, k5⟩ := HK2.out w6 hB6
          clear hB4 hb6 hB6 h56 cj3 hlk
          go_quiet (fail)
          go_wp2
          · go_ret
            exact ⟨ret_int (by rw [gotA_5 HL.out HX.out HY.out rfl HZ.out (by assumption)]; rfl), below_drewN (HB2.out.trans (HB6.out.mono (by omega))) _⟩
          · go_ret
            exact ⟨ret_int (by rw [gotA_0 HL.out HX.out HY.out rfl HZ.out (by show ¬ nb < ec; omega)]; rfl), below_drewN (HB2.out.trans (HB6.out.mono (by omega))) _⟩
    | false =>
      clear h54'
      cases z with
      | false =>
        have h56 := H56.out
        go_enter Try.func39, Try.ntmps39
        go_wp2
        go_quiet (fail)
        have hB4 := below_drewN (Below.refl (w.heap.size + 2) ((w.alloc (.cells #[.pointer (some ⟨jb, 0, none⟩)] 58)).alloc (.cells #[.int .i64 ek, .int .i64 ew, .string eq, .int .i64 em, .int .i64 ec, .bool ed] 55))) nq
        have hS4 := hB4.size
        rw [Hz2.out] at hS4
        have HS4 := Lib.hid hS4
        clear hS4
        go_wp2_with (first
          | (go_at_call 53; refine (hp _).mono ?_; clear hp; rintro r w2 ⟨rfl, hw2⟩; cases hw2)
          | (go_at_call 35; refine (h56 _ hB4).mono ?_; rintro r w6 ⟨rfl, hb6⟩; have hB6 := hB4.trans (hb6.mono HS4.out); have HB6 := Lib.hid hB6)
          | go_in)
        go_ret
        exact ⟨ret_int (by rw [gotA_4 HL.out HX.out HY.out rfl HZ.out]; rfl), HB2.out.trans (hB6.mono (by omega))⟩
      | true =>
        have h56 := H56.out
        go_enter Try.func39, Try.ntmps39
        go_wp2
        go_quiet (fail)
        have hB4 := below_drewN (Below.refl (w.heap.size + 2) ((w.alloc (.cells #[.pointer (some ⟨jb, 0, none⟩)] 58)).alloc (.cells #[.int .i64 ek, .int .i64 ew, .string eq, .int .i64 em, .int .i64 ec, .bool ed] 55))) nq
        have hS4 := hB4.size
        rw [Hz2.out] at hS4
        have HS4 := Lib.hid hS4
        clear hS4
        go_wp2_with (first
          | (go_at_call 53; refine (hp _).mono ?_; clear hp; rintro r w2 ⟨rfl, hw2⟩; cases hw2)
          | (go_at_call 35; refine (h56 _ hB4).mono ?_; rintro r w6 ⟨rfl, hb6⟩; have hB6 := hB4.trans (hb6.mono HS4.out); have HB6 := Lib.hid hB6)
          | go_in)
        obtain ⟨k1, k2, k3, k4, k5⟩ := HK2.out w6 hB6
        clear hB4 hb6 hB6 h56 cj3 hlk
        go_quiet (fail)
        go_wp2
        · go_ret
          exact ⟨ret_int (by rw [gotA_5 HL.out HX.out HY.out rfl HZ.out (by assumption)]; rfl), below_drewN (HB2.out.trans (HB6.out.mono (by omega))) _⟩
        · go_ret
          exact ⟨ret_int (by rw [gotA_0 HL.out HX.out HY.out rfl HZ.out (by show ¬ nb < ec; omega)]; rfl), below_drewN (HB2.out.trans (HB6.out.mono (by omega))) _⟩

end Go.Proofs.Ytgincippgaecfaa.Au
