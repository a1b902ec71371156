/-
  J20: A judge that is being made: what its maps hold behind the first configurations. No program's code in sight.
  J21: The program's Judge: its walk. No condition but the sizes.
-/
import Derived.Test.YtgincippgaecfaaJC
namespace Go.Proofs.Ytgincippgaecfaa.Au
open Go Go.RowKit

/-- Where the dead ones of a queue of that name go, as they lie in a row. -/
def deadsA (qs : List Qc) (s : ByteArray) : List ByteArray := (qs.filter fun c => (c.name.toList == s.toList) && !(c.dead.toList == [])).map (·.dead)
theorem deadsA_list (qs : List Qc) (s : ByteArray) : (deadsA qs s).map (·.toList) = deads qs s.toList := by
  unfold deadsA deads
  rw [List.map_map]; rfl
theorem deadsA_snoc (qs : List Qc) (c : Qc) (s : ByteArray) : deadsA (qs ++ [c]) s = deadsA qs s ++ if c.name = s ∧ c.dead.toList ≠ [] then [c.dead] else [] := by
  unfold deadsA
  rw [List.filter_append, List.map_append]
  congr 1
  by_cases h : c.name = s ∧ c.dead.toList ≠ []
  · rw [if_pos h]
    obtain ⟨h1, h2⟩ := h
    have : (c.dead.toList == []) = false := by simpa using h2
    have hp : ((c.name.toList == s.toList) && !(c.dead.toList == [])) = true := by rw [h1, this]; simp
    simp only [List.filter_cons, hp, if_true, List.filter_nil, List.map_cons, List.map_nil]
  · rw [if_neg h]
    have : ((c.name.toList == s.toList) && !(c.dead.toList == [])) = false := by
      rw [Bool.eq_false_iff]
      intro h'
      simp at h'
      exact h ⟨string_inj h'.1, by simpa using h'.2⟩
    simp only [List.filter_cons, this, List.filter_nil, List.map_nil, Bool.false_eq_true, if_false]
theorem deadsA_len (qs : List Qc) (s : ByteArray) : (deadsA qs s).length ≤ qs.length := by
  unfold deadsA; rw [List.length_map]; exact List.length_filter_le _ _
theorem deadsA_size {qs : List Qc} (h : ∀ c ∈ qs, c.dead.size ≤ maxLen) (s : ByteArray) : ∀ x ∈ deadsA qs s, x.size ≤ maxLen := by
  intro x hx
  unfold deadsA at hx
  obtain ⟨c, hc, rfl⟩ := List.mem_map.1 hx
  exact h c (List.mem_filter.1 hc).1

/-- The map of the Deads, while it is made: rows apart from each other, from block B on. -/
def JDB (B b n : Nat) (c : ByteArray → List ByteArray) (W : World) : Prop :=
  ∃ f, MapV W 9 b n (.slice none 0 0) f ∧ (∀ s, Strs B W (f (.string s)) (c s)) ∧ ∀ s s', s ≠ s' → ∀ g, (f (.string s)).ownBlock = some g → (f (.string s')).ownBlock ≠ some g

section
variable {W W' : World} {b n B : Nat} {row : Option Nat} {c c' : ByteArray → List ByteArray}

theorem JDB.kept (h : JDB B b n c W) (hg : W.grownBy W' row) (hr : row = none) : JDB B b n c W' := by
  subst hr
  obtain ⟨f, h1, h2, h3⟩ := h
  exact ⟨f, h1.kept hg (by simp), fun s => ownsRow_kept (h2 s) hg (by simp), h3⟩
theorem JDB.mono (h : JDB B b n c W) {m : Nat} (hm : n ≤ m) : JDB B b m c W := by
  obtain ⟨f, h1, h2⟩ := h
  exact ⟨f, h1.mono hm, h2⟩
theorem JDB.congr (h : JDB B b n c W) (hc : ∀ s, c' s = c s) : JDB B b n c' W := by
  obtain ⟨f, h1, h2, h3⟩ := h
  exact ⟨f, h1, fun m => by rw [hc]; exact h2 m, h3⟩

/-- One name more in a row. -/
theorem JDB.step {f : Value → Value} {W1 W2 : World} {nm x : ByteArray} {v' : Value} {tmp : Obj} (hBW : B ≤ W.heap.size) (hbB : b < B) (h2 : ∀ s, Strs B W (f (.string s)) (c s)) (h3 : ∀ s s', s ≠ s' → ∀ g, (f (.string s)).ownBlock = some g → (f (.string s')).ownBlock ≠ some g)
    (hg : (W.alloc tmp).grownBy W1 (f (.string nm)).ownBlock) (hown : Strs B W1 v' (c nm ++ [x])) (hat : ∀ g, v'.ownBlock = some g → (f (.string nm)).ownBlock = some g ∨ W.heap.size ≤ g)
    (hM2 : MapV W2 9 b (n + 1) (.slice none 0 0) (upd f (.string nm) v')) (hg2 : W1.grownBy W2 (some b)) (hc : ∀ s, c' s = if s = nm then c s ++ [x] else c s) : JDB B b (n + 1) c' W2 := by
  have hne : ∀ s, s ≠ nm → upd f (.string nm) v' (.string s) = f (.string s) := fun s hs => upd_other _ _ _ (fun e => hs (by cases e; rfl))
  refine ⟨_, hM2, fun s => ?_, fun m m' hmm g hb hb' => ?_⟩
  · rw [hc]
    by_cases h : s = nm
    · subst h
      rw [if_pos rfl, upd_same]
      refine ownsRow_kept hown hg2 fun r e hb => ?_
      have := Option.some.inj e
      have := (World.ownsRow.lt hown r hb).1
      omega
    · rw [if_neg h, hne s h]
      have h5 : Strs B W1 (f (.string s)) (c s) := by
        refine ownsRow_kept (ownsRow_block (B := W.alloc tmp) (h2 s) fun g hb => Below.heap_alloc W tmp g (World.ownsRow.lt (h2 s) g hb).2) hg fun r e hb => ?_
        exact h3 _ _ (fun e => h e.symm) r e hb
      refine ownsRow_kept h5 hg2 fun r e hb => ?_
      have := Option.some.inj e
      have := (World.ownsRow.lt h5 r hb).1
      omega
  · by_cases h : m = nm
    · subst h
      rw [upd_same] at hb
      rw [hne m' (fun e => hmm e.symm)] at hb'
      rcases hat g hb with h6 | h6
      · exact h3 _ _ hmm g h6 hb'
      · have := (World.ownsRow.lt (h2 m') g hb').2
        omega
    · rw [hne m h] at hb
      by_cases h' : m' = nm
      · subst h'
        rw [upd_same] at hb'
        rcases hat g hb' with h6 | h6
        · exact h3 _ _ hmm g hb h6
        · have := (World.ownsRow.lt (h2 m) g hb).2
          omega
      · rw [hne m' h'] at hb'
        exact h3 _ _ hmm g hb hb'
end

/-- The judge behind the first k configurations. -/
structure JL (S : Nat) (w0 : World) (qs : List Qc) (k : Nat) (W : World) : Prop where
  below : Below S w0 W
  size : S + 6 ≤ W.heap.size
  box : W.heap[S + 5]? = some (.cells #[.map (some S), .map (some (S + 1)), .map (some (S + 2)), .map (some (S + 3)), .map (some (S + 4))] 66 (0, 0))
  dead : JDB (S + 6) S k (deadsA (qs.take k)) W
  open_ : MapV W 55 (S + 1) 0 (.int .i64 0) fun _ => .int .i64 0
  held : MapV W 55 (S + 2) 0 (.int .i64 0) fun _ => .int .i64 0
  sent : MapV W 3 (S + 3) 0 (.slice none 0 0) fun _ => .slice none 0 0
  back : MapV W 3 (S + 4) 0 (.int .i64 0) fun _ => .int .i64 0

section
variable {S : Nat} {w0 W W' : World} {qs : List Qc} {k : Nat} {c : Qc}

theorem JL.start (w : World) (qs : List Qc) : JL w.heap.size w qs 0 ((((((w.alloc (.map #[] 0)).alloc (.map #[] 0)).alloc (.map #[] 0)).alloc (.map #[] 0)).alloc (.map #[] 0)).alloc (.cells #[.map (some w.heap.size), .map (some (w.heap.size + 1)), .map (some (w.heap.size + 2)), .map (some (w.heap.size + 3)), .map (some (w.heap.size + 4))] 66 (0, 0))) := by
  refine ⟨?_, by simp, ?_, ⟨_, ((((((MapV.made w 9 (.slice none 0 0)).alloc _).alloc _).alloc _).alloc _).alloc _), fun s => World.ownsRow_nil _ _ _ _, fun s s' _ g e => by cases e⟩, ?_, ?_, ?_, ?_⟩
  · exact ((((((Below.refl _ w).alloc (Nat.le_refl _) _).alloc (by simp) _).alloc (by simp; omega) _).alloc (by simp; omega) _).alloc (by simp; omega) _).alloc (by simp; omega) _
  · have := World.alloc_heap_new (((((w.alloc (.map #[] 0)).alloc (.map #[] 0)).alloc (.map #[] 0)).alloc (.map #[] 0)).alloc (.map #[] 0)) (.cells #[.map (some w.heap.size), .map (some (w.heap.size + 1)), .map (some (w.heap.size + 2)), .map (some (w.heap.size + 3)), .map (some (w.heap.size + 4))] 66 (0, 0))
    simpa using this
  · have := (((((MapV.made (w.alloc (.map #[] 0)) 55 (.int .i64 0)).alloc (.map #[] 0)).alloc (.map #[] 0)).alloc (.map #[] 0)).alloc (.cells #[.map (some w.heap.size), .map (some (w.heap.size + 1)), .map (some (w.heap.size + 2)), .map (some (w.heap.size + 3)), .map (some (w.heap.size + 4))] 66 (0, 0)))
    simpa using this
  · have := ((((MapV.made ((w.alloc (.map #[] 0)).alloc (.map #[] 0)) 55 (.int .i64 0)).alloc (.map #[] 0)).alloc (.map #[] 0)).alloc (.cells #[.map (some w.heap.size), .map (some (w.heap.size + 1)), .map (some (w.heap.size + 2)), .map (some (w.heap.size + 3)), .map (some (w.heap.size + 4))] 66 (0, 0)))
    simpa using this
  · have := (((MapV.made (((w.alloc (.map #[] 0)).alloc (.map #[] 0)).alloc (.map #[] 0)) 3 (.slice none 0 0)).alloc (.map #[] 0)).alloc (.cells #[.map (some w.heap.size), .map (some (w.heap.size + 1)), .map (some (w.heap.size + 2)), .map (some (w.heap.size + 3)), .map (some (w.heap.size + 4))] 66 (0, 0)))
    simpa using this
  · have := ((MapV.made ((((w.alloc (.map #[] 0)).alloc (.map #[] 0)).alloc (.map #[] 0)).alloc (.map #[] 0)) 3 (.int .i64 0)).alloc (.cells #[.map (some w.heap.size), .map (some (w.heap.size + 1)), .map (some (w.heap.size + 2)), .map (some (w.heap.size + 3)), .map (some (w.heap.size + 4))] 66 (0, 0)))
    simpa using this

/-- No change but new blocks. -/
theorem JL.grown (h : JL S w0 qs k W) (hg : W.grownBy W' none) : JL S w0 qs k W' := by
  have := h.size
  exact ⟨h.below.grown hg (by omega) (by simp), Nat.le_trans h.size hg.size, (hg.block _ (by omega) (by simp)).trans h.box, h.dead.kept hg rfl, h.open_.kept hg (by simp), h.held.kept hg (by simp), h.sent.kept hg (by simp), h.back.kept hg (by simp)⟩
theorem JL.pass (h : JL S w0 qs k W) (hc : qs[k]? = some c) (hd : c.dead.toList = []) : JL S w0 qs (k + 1) W := by
  refine ⟨h.below, h.size, h.box, (h.dead.mono (Nat.le_succ _)).congr fun s => ?_, h.open_, h.held, h.sent, h.back⟩
  rw [List.take_add_one, hc]
  simp only [Option.toList_some]
  rw [deadsA_snoc, if_neg (fun h => h.2 hd)]; simp

theorem JL.step (h : JL S w0 qs k W) (hc : qs[k]? = some c) (hd : c.dead.toList ≠ []) {f : Value → Value} {W1 : World} {v' : Value} {tmp : Obj} (h2 : ∀ s, Strs (S + 6) W (f (.string s)) (deadsA (qs.take k) s)) (h3 : ∀ s s', s ≠ s' → ∀ g, (f (.string s)).ownBlock = some g → (f (.string s')).ownBlock ≠ some g)
    (hg : (W.alloc tmp).grownBy W1 (f (.string c.name)).ownBlock) (hown : Strs (S + 6) W1 v' (deadsA (qs.take k) c.name ++ [c.dead])) (hat : ∀ g, v'.ownBlock = some g → (f (.string c.name)).ownBlock = some g ∨ W.heap.size ≤ g)
    (hM2 : MapV W' 9 S (k + 1) (.slice none 0 0) (upd f (.string c.name) v')) (hg2 : W1.grownBy W' (some S)) : JL S w0 qs (k + 1) W' := by
  have hsz := h.size
  have s1 := hg.size
  simp only [World.size_alloc] at s1
  have hv : ∀ r, (f (.string c.name)).ownBlock = some r → S + 6 ≤ r := fun r hr => (World.ownsRow.lt (h2 c.name) r hr).1
  have hvn : ∀ r, r < S + 6 → some r ≠ (f (.string c.name)).ownBlock := fun r hr e2 => by have := hv r e2.symm; omega
  have gA := World.grownBy_alloc W tmp none
  have hA := h.grown gA
  refine ⟨(hA.below.grown hg (by simp; omega) (fun r e2 => by have := hv r e2; omega)).grown hg2 (by omega) (fun r e => by have := Option.some.inj e; omega), by have := hg2.size; omega, ?_, ?_, ?_, ?_, ?_, ?_⟩
  · exact (hg2.block _ (by omega) (by simp)).trans ((hg.block _ (by simp; omega) (hvn _ (by omega))).trans hA.box)
  · refine JDB.step (by omega) (by omega) h2 h3 hg hown hat hM2 hg2 fun s => ?_
    rw [List.take_add_one, hc]
    simp only [Option.toList_some]
    rw [deadsA_snoc]
    by_cases hm : s = c.name
    · subst hm; rw [if_pos ⟨rfl, hd⟩, if_pos rfl]
    · rw [if_neg (fun h => hm h.1.symm), if_neg hm]; simp
  · exact (hA.open_.kept hg (hvn _ (by omega))).kept hg2 (by simp)
  · exact (hA.held.kept hg (hvn _ (by omega))).kept hg2 (by simp)
  · exact (hA.sent.kept hg (hvn _ (by omega))).kept hg2 (by simp)
  · exact (hA.back.kept hg (hvn _ (by omega))).kept hg2 (by simp)

/-- The judge is made. -/
theorem JL.end (h : JL S w0 qs qs.length W) (hS : S ≤ w0.heap.size) (hz : ∀ c ∈ qs, c.dead.size ≤ maxLen) : JI S W.heap.size w0 qs [] W := by
  obtain ⟨f, h1, h2, h3⟩ := h.dead
  rw [List.take_length] at h2
  refine ⟨h.below, hS, h.size, Nat.le_refl _, h.box, ⟨_, f, ⟨h1, fun s _ => ⟨deadsA qs s, deadsA_list qs s, deadsA_size hz s, h2 s⟩⟩, fun s _ g hg => (World.ownsRow.lt (h2 s) g hg).2⟩, ⟨_, h.open_, fun e => rfl⟩, ⟨_, h.held, fun e => rfl⟩, ⟨_, h.sent, fun m => World.ownsRow_nil _ _ _ _, fun m m' _ g e => by cases e⟩, ⟨_, h.back, fun m => rfl⟩, fun e => ⟨by simp [openC, countL], by simp [heldC, countL]⟩⟩
theorem JL.cell0 (h : JL S w0 qs k W) : W.cell? ⟨S + 5, 0, none⟩ = some (.map (some S)) := by
  have := h.box
  simp [World.cell?, this]
end

end Go.Proofs.Ytgincippgaecfaa.Au

namespace Go.Proofs.Ytgincippgaecfaa.Au
open Go Go.RowKit
attribute [local go_sem ↓] Go.wp_at_zero Go.wp_at_succ

theorem QsAt.len {n : Nat} {w : World} {sv : Value} {qs : List Qc} (h : QsAt n w sv qs) : ∃ a cap, sv = .slice a qs.length cap := by
  rcases h with ⟨p, c, rfl, rfl⟩ | ⟨b, off, cap, rfl, _, _⟩
  · exact ⟨_, _, rfl⟩
  · exact ⟨_, _, rfl⟩
theorem QsAt.at_ {n : Nat} {w : World} {a : Option Addr} {cap k : Nat} {qs : List Qc} {c : Qc} (h : QsAt n w (.slice a qs.length cap) qs) (hc : qs[k]? = some c) : ∃ b off, a = some ⟨b, off, none⟩ ∧ b < n ∧ QcAt w b (off + k * 5) c := by
  rcases h with ⟨p, c, _, rfl⟩ | ⟨b, off, cap, e, hb, hq⟩
  · simp at hc
  · simp only [Value.slice.injEq] at e
    exact ⟨b, off, e.1, hb, hq k c hc⟩
theorem HistAt.at_ {n : Nat} {w : World} {a : Option Addr} {cap k : Nat} {es : List Ent} {e : Ent} (h : HistAt n w (.slice a es.length cap) es) (hc : es[k]? = some e) : ∃ b off, a = some ⟨b, off, none⟩ ∧ b < n ∧ EntAt w b (off + k * 6) e := by
  rcases h with ⟨p, c, _, rfl⟩ | ⟨b, off, cap, e, hb, hq⟩
  · simp at hc
  · simp only [Value.slice.injEq] at e
    exact ⟨b, off, e.1, hb, hq k _ hc⟩

theorem cellsFar3 {A B : World} {row : Option Nat} {S C : Nat} {x y : ByteArray} (hg : A.grownBy B row) (hS : S + 5 < A.heap.size) (hE : C < A.heap.size) (hr : row ≠ some (S + 5)) (hr2 : row ≠ some C)
    (h : A.cell? ⟨S + 5, 0, none⟩ = some (.map (some S)) ∧ A.cell? ⟨C, 0, none⟩ = some (.string x) ∧ A.cell? ⟨C, 2, none⟩ = some (.string y)) :
    B.cell? ⟨S + 5, 0, none⟩ = some (.map (some S)) ∧ B.cell? ⟨C, 0, none⟩ = some (.string x) ∧ B.cell? ⟨C, 2, none⟩ = some (.string y) := by
  obtain ⟨h0, h1, h2⟩ := h
  exact ⟨(hg.cell_far ⟨S + 5, 0, none⟩ hS (Ne.symm hr)).trans h0, (hg.cell_far ⟨C, 0, none⟩ hE (Ne.symm hr2)).trans h1, (hg.cell_far ⟨C, 2, none⟩ hE (Ne.symm hr2)).trans h2⟩

set_option maxRecDepth 100000 in
set_option maxHeartbeats 16000000 in
theorem pjudge_good (n : Nat) (a a2 : Option Addr) (cap cap2 : Nat) (qs : List Qc) (es : List Ent) (w : World) (hq : qs.length * 56 ≤ 140737488351232) (hs : QsAt n w (.slice a qs.length cap) qs) (h : HistAt n w (.slice a2 es.length cap2) es) (hn : n ≤ w.heap.size)
    (hh : histE es = 0) (hw : ∀ e ∈ es, EntOk e) (hz : ∀ c ∈ qs, c.name.size ≤ maxLen ∧ c.dead.size ≤ maxLen) :
    Calls Try.prog 10 #[.slice a qs.length cap, .slice a2 es.length cap2] w fun r w' => r = .returned (.tuple #[.int .i64 (judgeL qs es).1, .int .i64 (judgeL qs es).2, .int .i64 0]) ∧ Below w.heap.size w w' := by
  have ha := amiss_any n _ es w h hn
  rw [hh] at ha
  have hel := histE_lenJ hh
  have HH := Lib.hid h
  have HS := Lib.hid hs
  have HW := Lib.hid hw
  have HZ := Lib.hid hz
  have HQ := Lib.hid hq
  have hql : (qs.length : Int) ≤ 2513169434843 := by omega
  have hmm := @run_makeMap Try.prog
  clear hh h hs hw hz hq
  go_enter Try.func10, Try.ntmps10
  go_wp2_with (first
    | (go_at_call 20; refine ha.mono ?_; clear ha; rintro r w1 ⟨rfl, hb1⟩)
    | go_in)
  clear hmm
  obtain ⟨S, hS⟩ : ∃ S, w1.heap.size = S := ⟨_, rfl⟩
  have hL0 := JL.start w1 qs
  have hSn := Nat.le_of_eq hS.symm
  rw [hS] at hL0
  simp only [hS]
  have HSZ := Lib.hid hS
  clear hS
  obtain ⟨i0, hi, hz0, hz1, hz2⟩ := info_parts info9
  go_loopw [28] (fun i wr => ∃ k : Nat, i = .int .i64 k ∧ k ≤ qs.length ∧ JL S w1 qs k wr) (fun i _ => qs.length - (intOf i).toNat)
  case atStart => exact ⟨0, rfl, Nat.zero_le _, hL0⟩
  case round =>
    clear hL0
    obtain ⟨k, rfl, hk, hL⟩ := hrel
    by_cases hlt : k < qs.length
    · obtain ⟨c, hc⟩ : ∃ c, qs[k]? = some c := ⟨_, List.getElem?_eq_getElem hlt⟩
      have hbw : Below w.heap.size w wr := hb1.trans (hL.below.mono (by rw [← HSZ.out]; exact hb1.size))
      obtain ⟨b, off, rfl, hb, hQ⟩ := HS.out.at_ hc
      obtain ⟨c0, c1, c2, c3, c4⟩ := (hQ.below hbw (Nat.lt_of_lt_of_le hb hn))
      have HC := Lib.hid hc
      have HL := Lib.hid hL
      have hsz := hL.size
      by_cases hd : c.dead.toList = []
      · have hd2 : c.dead.toList.isEmpty = true := by rw [hd]; rfl
        have HD := Lib.hid hd
        clear hc hL hQ hbw hd
        go_wp2
        exact ⟨⟨k + 1, by go_num, by omega, (HL.out.grown (World.grownBy_alloc _ _ _)).pass HC.out HD.out⟩, by simp [intOf]; omega⟩
      · have hd2 : c.dead.toList.isEmpty = false := by simpa using hd
        have HD := Lib.hid hd
        have hL2 := hL.grown (World.grownBy_alloc wr (.cells #[.string c.name, .int .i64 c.most, .string c.dead, .int .i64 c.tries, .bool c.durable] 27) none)
        obtain ⟨f, hM0, hrows0, hap⟩ := hL.dead
        have hM := hM0.alloc (.cells #[.string c.name, .int .i64 c.most, .string c.dead, .int .i64 c.tries, .bool c.durable] 27)
        have hrows : ∀ s, Strs (S + 6) (wr.alloc (.cells #[.string c.name, .int .i64 c.most, .string c.dead, .int .i64 c.tries, .bool c.durable] 27)) (f (.string s)) (deadsA (qs.take k) s) := fun s => ownsRow_kept (hrows0 s) (World.grownBy_alloc _ _ none) (by simp)
        have hcs := (HZ.out c (List.mem_of_getElem? hc)).1
        have hj0 := hL2.cell0
        have hl7 := hM.drew.look keyed9 Try.underlying59 (zero67 _) (key9 hcs)
        have hl8 := ((hM.alloc (.cells #[.string c.dead] 9)).drew).look keyed9 Try.underlying59 (zero67 _) (key9 hcs)
        obtain ⟨v, hv⟩ : ∃ v, f (.string c.name) = v := ⟨_, rfl⟩
        have hown := hrows c.name
        rw [hv] at hl7 hl8 hown
        obtain ⟨xs, hxs⟩ : ∃ xs, deadsA (qs.take k) c.name = xs := ⟨_, rfl⟩
        have hxl := deadsA_len (qs.take k) c.name
        rw [hxs] at hown hxl
        have hxl2 : xs.length ≤ 2513169434843 := Nat.le_trans hxl (Nat.le_trans (List.length_take_le' _ _) (by omega))
        have hve : v.ownBlock ≠ some wr.heap.size := fun e => by
          have := (World.ownsRow.lt (hrows0 c.name) _ (by rw [hv]; exact e)).2
          omega
        have hnews : ∀ (j : Nat) (u : Value), [Value.string c.dead][j]? = some u → ((wr.alloc (.cells #[.string c.name, .int .i64 c.most, .string c.dead, .int .i64 c.tries, .bool c.durable] 27)).drew.alloc (.cells #[.string c.dead] 9)).cell? ((⟨wr.heap.size + 1, 0, none⟩ : Addr).add j) = some u := by
          have h1 := cells_new (wr.alloc (.cells #[.string c.name, .int .i64 c.most, .string c.dead, .int .i64 c.tries, .bool c.durable] 27)).drew [.string c.dead] 9
          have h2 : (wr.alloc (.cells #[.string c.name, .int .i64 c.most, .string c.dead, .int .i64 c.tries, .bool c.durable] 27)).drew.heap.size = wr.heap.size + 1 := by simp
          rw [h2] at h1
          exact h1
        have hvb : ∀ r, r < S + 6 → v.ownBlock ≠ some r := fun r hr e => by
          have := (World.ownsRow.lt hown r e).1
          omega
        have hx1 : xs.length + 1 ≤ maxLen := by unfold maxLen; omega
        have hx2 : (xs.length + 1) * 16 ≤ 140737488355328 := by omega
        have hown8 : ((wr.alloc (.cells #[.string c.name, .int .i64 c.most, .string c.dead, .int .i64 c.tries, .bool c.durable] 27)).drew.alloc (.cells #[.string c.dead] 9)).ownsRow (S + 6) 9 1 v xs.length (xs.map Value.string) := World.ownsRow.alloc (ownsRow_block (B := (wr.alloc (.cells #[.string c.name, .int .i64 c.most, .string c.dead, .int .i64 c.tries, .bool c.durable] 27)).drew) hown fun _ _ => rfl) _
        have hb9 : S + 6 ≤ ((wr.alloc (.cells #[.string c.name, .int .i64 c.most, .string c.dead, .int .i64 c.tries, .bool c.durable] 27)).drew.alloc (.cells #[.string c.dead] 9)).heap.size := by simp; omega
        have HO := Lib.hid hown8
        have HMS := Lib.hid hM
        have HR := Lib.hid (And.intro hrows hap)
        have HV := Lib.hid (And.intro hv hxs)
        have HCS := Lib.hid hcs
        have HL2 := Lib.hid hL2
        clear hc hL hQ hbw hd hL2 hM hM0 hrows hrows0 hap hv hxs hown hown8 hcs
        go_wp2
        go_region_held3 (fun w' => w'.cell? ⟨S + 5, 0, none⟩ = some (.map (some S)) ∧ w'.cell? ⟨wr.heap.size, 0, none⟩ = some (.string c.name) ∧ w'.cell? ⟨wr.heap.size, 2, none⟩ = some (.string c.dead))
          (first
            | go_keep
            | exact cellsFar3 (World.grownBy_alloc _ _ none) (by simp; omega) (by simp) (by simp) (by simp) (by assumption)
            | exact cellsFar3 hg10 (by omega) (by omega) (by simp) (by simp; omega) (by assumption)
            | exact cellsFar3 hgrow9 (by simp; omega) (by simp; omega) (hvb _ (by omega)) hve (by assumption))
          ((refine step_append_lies _ (by rfl) _ _ _ (by rfl) (S + 6) 9 i0 _ 1 16 Try.underlying67 hi hz0 hz1 hz2 rfl (by omega) v xs.length (xs.map Value.string) (by rfl) HO.out ⟨wr.heap.size + 1, 0, none⟩ 1 1 [.string c.dead] (by rfl) rfl hnews (by simp [Value.oneCell']) (by omega) hx1 hx2 hb9 _ rfl ?_; intro g cap9 w9 hown9 hgrow9 hat9 hlt9; obtain ⟨w10, hr10, hm10, hg10⟩ := ((HMS.out.drew.alloc _).kept hgrow9 (Ne.symm (hvb S (by omega)))).put keyed9 Try.underlying59 (by unfold maxLen; omega) (key9 HCS.out) (.slice (some ⟨g, 0, none⟩) (xs.length + 1) cap9); have hz9 := hgrow9.size; simp at hz9))
        all_goals go_wp2
        all_goals refine ⟨⟨k + 1, by go_num, by omega, HL2.out.step HC.out HD.out (W1 := w9) HR.out.1 HR.out.2 (by rw [HV.out.1]; exact (Grow.drew _ _).trans hgrow9) (by rw [HV.out.2]; unfold Strs; simpa using hown9) (fun g' e => ?_) (hm10 _ (upd_same _ _ _) fun y hy => upd_other _ _ _ hy) hg10⟩, by simp [intOf]; omega⟩
        all_goals
          simp only [Value.ownBlock, Option.some.injEq] at e
          subst e
          rcases hat9 with h | h
          · exact .inl (by rw [HV.out.1]; exact h)
          · exact .inr (by rw [h]; simp)
    · obtain rfl : k = qs.length := by omega
      have hJ0 := hL.end hSn fun c hc => (HZ.out c hc).2
      have hbs := hL.below
      obtain ⟨B2, hB2⟩ : ∃ B2, wr.heap.size = B2 := ⟨_, rfl⟩
      rw [hB2] at hJ0
      clear hL
      have H2 := Lib.hid hB2
      clear hB2
      go_wp2
      go_loopw [55] (fun i wr2 => ∃ k : Nat, i = .int .i64 k ∧ k ≤ es.length ∧ judgeFrom qs es (es.length - k) k = judgeL qs es ∧ JI S B2 w1 qs (es.take k) wr2) (fun i _ => es.length - (intOf i).toNat)
      case atStart => exact ⟨0, rfl, Nat.zero_le _, rfl, hJ0⟩
      case round =>
        clear hJ0
        obtain ⟨k, rfl, hk, hj, hJ⟩ := hrel
        have hbw : Below w.heap.size w wr := hb1.trans (hJ.below.mono (by rw [← HSZ.out]; exact hb1.size))
        by_cases hlt : k < es.length
        · obtain ⟨e, he⟩ : ∃ e, es[k]? = some e := ⟨_, List.getElem?_eq_getElem hlt⟩
          obtain ⟨b, off, rfl, hb, hE⟩ := HH.out.at_ he
          obtain ⟨c0, c1, c2, c3, c4, c5⟩ := hE.below hbw (Nat.lt_of_lt_of_le hb hn)
          have hlk : (es.take k).length = k := by rw [List.length_take]; omega
          have hcall := pwrong_any e (hJ.later ((Below.refl _ wr).alloc (Nat.le_refl _) (.cells #[.int .i64 e.kind, .int .i64 e.who, .string e.queue, .int .i64 e.msg, .int .i64 e.count, .bool e.dur] 55))) (by rw [hlk]; omega) (HW.out e (List.mem_of_getElem? he)) (fun x hx => HW.out x (List.mem_of_mem_take hx)) HQ.out
          have hsub : es.length - k = (es.length - (k + 1)) + 1 := by omega
          have htk : es.take (k + 1) = es.take k ++ [e] := by rw [List.take_add_one, he]; rfl
          obtain ⟨x, hx⟩ : ∃ x, wrongL qs (es.take k) e = x := ⟨_, rfl⟩
          rw [hx] at hcall
          have HE := Lib.hid he
          have HX := Lib.hid hx
          have HJ := Lib.hid hj
          have HSUB := Lib.hid hsub
          have HTK := Lib.hid htk
          clear he hE hJ hx hj hsub htk hlk hbw
          go_wp2_with (first
            | (go_at_call 21; refine hcall.mono ?_; clear hcall; rintro r w4 ⟨rfl, hb4, hJ4⟩; have HJ4 := Lib.hid hJ4; clear hJ4)
            | go_in)
          · have hx0 : ¬ wrongL qs (es.take k) e = 0 := by
              have hq : ((x : Int) != 0) = true := by assumption
              rw [HX.out]; simpa using hq
            have hj2 := HJ.out
            rw [HSUB.out, judgeFrom_bad HE.out hx0, HX.out] at hj2
            go_ret3
            exact ⟨by rw [← hj2]; rfl, hb1.trans (hb4.mono (by rw [← HSZ.out]; exact hb1.size))⟩
          · have hx1 : x = 0 := by
              have hq : ((x : Int) != 0) = false := by assumption
              simpa using hq
            have hx0 : wrongL qs (es.take k) e = 0 := by rw [HX.out, hx1]
            have hj2 := HJ.out
            rw [HSUB.out, judgeFrom_ok HE.out hx0] at hj2
            exact ⟨⟨k + 1, by go_num, by omega, hj2, by rw [HTK.out]; exact HJ4.out hx1⟩, by simp [intOf]; omega⟩
        · obtain rfl : k = es.length := by omega
          rw [Nat.sub_self] at hj
          have HJ := Lib.hid hj
          have HB := Lib.hid hbw
          clear hj hJ hbw
          go_wp2
          go_ret3
          exact ⟨by rw [← HJ.out]; rfl, HB.out⟩

end Go.Proofs.Ytgincippgaecfaa.Au
