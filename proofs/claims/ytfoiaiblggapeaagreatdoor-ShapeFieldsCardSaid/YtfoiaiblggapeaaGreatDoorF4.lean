/-
  fieldsOwned: its walk: lists of fields in rows apart are their owner's. Conditions: they lie so; their lengths.
-/
import Derived.Test.YtfoiaiblggapeaaGreatDoorF3
import Derived.Deep.QuietTactic
import Derived.BigQuiet
import Derived.RangeFuncBox
namespace Go.Proofs.YtfoiaiblggapeaaGreatDoor.Fd
open Go Go.RowKit Go.Proofs.Nu Go.Proofs.YtfoiaiblggapeaaGreatDoor.Va
attribute [local go_sem ↓] Go.wp_at_zero Go.wp_at_succ

theorem store_mark {w : World} {b o : Nat} {k : Int} {u : Value} (hc : w.cell? ⟨b, o, none⟩ = some u) (hf : w.frozen? ⟨b, o, none⟩ = false) : (Instr.storeAt 3 (.pointer (some ⟨b, o, none⟩)) (.int .i64 k)).run Tryz.prog w = .ok () (w.setCell ⟨b, o, none⟩ (.int .i64 k)) := by
  have := Tryz.underlying3
  have := Tryz.sizeOf3
  go_simp
attribute [-go_sem] Go.Instr.storeAt
theorem store_field {w : World} {b o : Nat} {i : Nat} (h : w.there b o 9) : (Instr.storeAt 65 (.pointer (some ⟨b, o, none⟩)) (.agg #[.string ⟨#[]⟩, .int .i64 (-1000 - (i : Int)), .slice none 0 0, .bool false, .int .i64 0, .int .u64 0, .string ⟨#[]⟩, .slice none 0 0, .int .i64 0])).run Tryz.prog w = .ok () (w.setCells b o (patF (.inr i))) :=
  Go.run_storeAt_mid w b o 65 (patF (.inr i)).toArray h (by kernel_rfl) (by simp [patF, Value.oneCell'])

theorem infoI : (Tryz.prog.info? 3).map (fun i => (i.zero, i.size, i.bytes)) = some (some (.int .i64 0), 1, 8) := by kernel_rfl
theorem infoK : (Tryz.prog.info? 63).map (fun i => (i.zero, i.size, i.bytes)) = some (some (.slice none 0 0), 1, 24) := by kernel_rfl
theorem infoF : (Tryz.prog.info? 65).map (fun i => (i.zero, i.size, i.bytes)) = some (some (.agg #[.string ⟨#[]⟩, .int .i64 0, .slice none 0 0, .bool false, .int .i64 0, .int .u64 0, .string ⟨#[]⟩, .slice none 0 0, .int .i64 0]), 9, 120) := by kernel_rfl
theorem infoL : (Tryz.prog.info? 23).map (fun i => (i.zero, i.size, i.bytes)) = some (some (.slice none 0 0), 1, 24) := by kernel_rfl

/-- How the lists lie ahead of all. -/
structure Door (W : World) (own0 : OwnF FK) (vs : List Value) (kvss : List (List Value)) (gv : Value) : Prop where
  len : vs.length = 3
  lenk : kvss.length = 3
  lens : kvss.flatten.length ≤ 1000
  row : RowR W.heap.size own0 W gv vs
  dom : ∀ b x, own0 b = some x → b < W.heap.size
  read : ∀ (i : Nat) (v : Value) (kvs : List Value), vs[i]? = some v → kvss[i]? = some kvs → kvs.length ≤ 1000 ∧ ∃ p c, v = .slice p kvs.length c ∧ ∀ k kv, kvs[k]? = some kv → ∃ b off, p = some ⟨b, off, none⟩ ∧ b < W.heap.size ∧ W.cell? ⟨b, off + k * 9 + 2, none⟩ = some kv
  vf : ∀ (i : Nat) (v : Value), vs[i]? = some v → Fam patF own0 W (.inr i) 0 1000 v
  kf : ∀ (t : Nat) (v : Value), kvss.flatten[t]? = some v → Fam patF own0 W (.inl t) 0 1000 v
theorem Door.start {W w : World} {own0 : OwnF FK} {vs : List Value} {kvss : List (List Value)} {gv : Value} (h : Door W own0 vs kvss gv) (hb : Below W.heap.size W w) : Inv own0 W W.heap.size vs kvss.flatten [] [] (fun _ => 0) (fun _ => 0) [(gv, vs)] own0 w := by
  have hst : OStep patF own0 W own0 w none := OStep.grown h.dom ⟨hb.os, hb.tape, hb.output, hb.size, fun k hk _ => hb.block k hk⟩ (fun _ e => by cases e)
  exact ⟨hst, Nat.le_refl _, hb.size, fun x hx => by
    simp only [List.mem_cons, List.not_mem_nil, or_false] at hx
    subst hx
    exact h.row.step hst (Nat.le_refl _) (fun _ e => by cases e), fun i v hv => hst.fam _ _ _ _ (h.vf i v hv), fun i v hv => hst.fam _ _ _ _ (h.kf i v hv), fun t v h => by simp at h, fun t v h => by simp at h⟩
/-- The row of the kinds, while it grows. -/
def KRow (W : World) (ks : List Value) (v : Value) (t : Nat) (w : World) : Prop := t ≤ ks.length ∧ w.ownsRow W.heap.size 63 1 v t (ks.take t) ∧ Below W.heap.size W w
theorem KRow.kind {W w : World} {ks : List Value} {v : Value} {t : Nat} (h : KRow W ks v t w) : ∃ p c, v = .slice p t c := by
  rcases h.2.1.2 with ⟨h1, h2⟩ | ⟨g, c, _, h1, _⟩
  · exact ⟨none, 0, by rw [h1, h2]⟩
  · exact ⟨_, c, h1⟩
theorem Door.done {W w : World} {own0 : OwnF FK} {vs : List Value} {kvss : List (List Value)} {gv : Value} (h : Door W own0 vs kvss gv) {v : Value} (hk : KRow W kvss.flatten v kvss.flatten.length w) : Inv own0 W w.heap.size vs kvss.flatten [] [] (fun _ => 0) (fun _ => 0) [(v, kvss.flatten), (gv, vs)] own0 w := by
  have ho := hk.2.1
  rw [List.take_length] at ho
  refine (h.start hk.2.2).raise ho fun b hb => ?_
  have := (World.ownsRow.lt ho b hb).1
  cases hh : own0 b with
  | none => rfl
  | some x => have := h.dom b x hh; omega
theorem Door.kind {W : World} {own0 : OwnF FK} {vs : List Value} {kvss : List (List Value)} {gv : Value} (h : Door W own0 vs kvss gv) {i : Nat} {kvs : List Value} (hk : kvss[i]? = some kvs) {k : Nat} {kv : Value} (hkv : kvs[k]? = some kv) : kvss.flatten[(kvss.take i).flatten.length + k]? = some kv ∧ ∃ p n c, kv = .slice p n c := by
  have h1 := (flatten_get hk k (List.getElem?_eq_some_iff.1 hkv).1).trans hkv
  refine ⟨h1, ?_⟩
  obtain ⟨p, n, c, e, _⟩ := (h.kf _ _ h1).shape
  exact ⟨p, n, c, e⟩

set_option maxRecDepth 100000 in
set_option maxHeartbeats 40000000 in
theorem owned_any {W : World} {own0 : OwnF FK} {vs : List Value} {kvss : List (List Value)} {gv : Value} (hD : Door W own0 vs kvss gv) :
    Calls Tryz.prog 13 #[gv] W fun r w' => r = .returned (.bool true) ∧ ∃ own', OStep patF own0 W own' w' none := by
  have HD := Lib.hid hD
  obtain ⟨gp, gc, rfl, hu⟩ := hD.row
  have e3 : vs.length = 3 := hD.len
  rw [e3] at HD ⊢
  clear hu hD
  go_enter Tryz.func13, Tryz.ntmps13
  go_wp2
  -- the kinds are collected
  go_loopw [3, 4] (fun kv iv wr => ∃ i : Nat, iv = .int .i64 i ∧ i ≤ 3 ∧ Hid (KRow W kvss.flatten kv (kvss.take i).flatten.length wr)) (fun _ iv _ => 3 - (intOf iv).toNat)
  case atStart => exact ⟨0, rfl, by omega, ⟨Nat.zero_le _, by simpa using World.ownsRow_nil W _ _ _, Below.refl _ _⟩⟩
  case round =>
    obtain ⟨i, rfl, hi, HP⟩ := hrel
    by_cases hlt : i < 3
    · obtain ⟨v, hvi⟩ : ∃ v, vs[i]? = some v := ⟨_, List.getElem?_eq_getElem (by omega)⟩
      obtain ⟨kvs, hki⟩ : ∃ kvs, kvss[i]? = some kvs := ⟨_, List.getElem?_eq_getElem (by rw [HD.out.lenk]; exact hlt)⟩
      obtain ⟨hkl, p, c, rfl, hu⟩ := HD.out.read i v kvs hvi hki
      clear hu
      have HV := Lib.hid hvi
      have HKI := Lib.hid hki
      have HT := Lib.hid (flatten_take hki)
      have hi1 : (i : Int) < 3 := by omega
      have hi0 : (0 : Int) ≤ (i : Int) := by omega
      clear hvi hki
      obtain ⟨t0, ht0⟩ : ∃ t0, (kvss.take i).flatten.length = t0 := ⟨_, rfl⟩
      have HT0 := Lib.hid ht0
      rw [ht0] at HP HT
      clear ht0
      obtain ⟨m, hm⟩ : ∃ m, kvs.length = m := ⟨_, rfl⟩
      have Hm := Lib.hid hm
      rw [hm] at hkl HV HT
      clear hm
      have HG : Hid (∀ wq, Below W.heap.size W wq → ∃ g, gp = some ⟨g, 0, none⟩ ∧ wq.cell? ⟨g, i, none⟩ = some (.slice p m c)) := fun wq hb => by
        obtain ⟨p', c', e, h2⟩ := HD.out.row
        simp only [Value.slice.injEq] at e
        obtain ⟨rfl, _, _⟩ := e
        obtain ⟨g, e, hlt, _, hc⟩ := h2 i _ HV.out
        exact ⟨g, e, (World.cell?_of_block (a := ⟨g, i, none⟩) (hb.block g hlt)).trans hc⟩
      obtain ⟨g, rfl, hc0⟩ := HG.out wr HP.out.2.2
      go_wp2
      go_loopw [3, 5] (fun kv kk wq => ∃ k : Nat, kk = .int .i64 k ∧ k ≤ m ∧ Hid (KRow W kvss.flatten kv (t0 + k) wq)) (fun _ kk _ => m - (intOf kk).toNat)
      case atStart => exact ⟨0, rfl, Nat.zero_le _, HP.out⟩
      case round =>
        obtain ⟨k, rfl, hk, HQ⟩ := hrel
        obtain ⟨g', e, hc1⟩ := HG.out wr HQ.out.2.2
        cases e
        by_cases hltk : k < m
        · obtain ⟨kv, hkv⟩ : ∃ kv, kvs[k]? = some kv := ⟨_, List.getElem?_eq_getElem (by rw [Hm.out]; exact hltk)⟩
          obtain ⟨_, p', c', e, hr⟩ := HD.out.read i _ kvs HV.out HKI.out
          simp only [Value.slice.injEq] at e
          obtain ⟨rfl, _, _⟩ := e
          obtain ⟨b, off, rfl, hbl, hc2⟩ := hr k kv hkv
          obtain ⟨hfl, kp, kn, kc, rfl⟩ := HD.out.kind HKI.out hkv
          have hc3 := (World.cell?_of_block (a := ⟨b, off + k * 9 + 2, none⟩) (HQ.out.2.2.block b hbl)).trans hc2
          rw [HT0.out] at hfl
          have hsn := Lib.hid (take_snoc hfl)
          have hft := (List.getElem?_eq_some_iff.1 hfl).1
          have hml := HD.out.lens
          have hk0 : (0 : Int) ≤ (k : Int) := by omega
          have hk1 : (k : Int) < (m : Int) := by omega
          obtain ⟨p0, c0, rfl⟩ := HQ.out.kind
          have hrow := HQ.out.2.1
          have hzw := HQ.out.2.2.size
          obtain ⟨ik, hj, hy0, hy1, hy2⟩ := info_parts infoK
          have HS := Lib.hid hft
          clear hr hfl hft hc2 hc0
          have hmax : t0 + k + 1 ≤ maxLen := by unfold maxLen; have := HS.out; omega
          have hby : (t0 + k + 1) * 24 ≤ 140737488355328 := by have := HS.out; omega
          clear hml
          go_wp2_with (at_builtin; go_must (refine wpList_append_own _ rfl _ _ 66 rfl W.heap.size 63 ik (.slice none 0 0) 1 24 Tryz.underlying66 hj hy0 hy1 hy2 rfl (by decide) _ (t0 + k) (kvss.flatten.take (t0 + k)) rfl (World.ownsRow.alloc hrow _) ⟨wr.heap.size, 0, none⟩ 1 1 [.slice kp kn kc] rfl rfl (cell_one_new _ _ _) (by simp [Value.oneCell']) hmax hby (by simp; omega) ?_; intro vg' w4 hown4 hgrow4 hup4))
          go_roundw
          case rel => exact ⟨k + 1, by go_num, by omega, ⟨by have := HS.out; omega, by rw [show t0 + (k + 1) = t0 + k + 1 from rfl, ← hsn.out]; exact hown4, HQ.out.2.2.trans ((Below.alloc (Below.refl W.heap.size _) hzw _).grown hgrow4 (by simp; omega) (fun x e => (World.ownsRow.lt hrow x e).1))⟩⟩
          case measure => simp [intOf]; omega
        · obtain rfl : k = m := by omega
          have HN : Hid (KRow W kvss.flatten u3 ((kvss.take (i + 1)).flatten.length) wr) := by rw [HT.out]; exact HQ.out
          go_wp2
          go_roundw
          case rel => exact ⟨i + 1, by go_num, by omega, HN.out⟩
          case measure => simp [intOf]; omega
    · obtain rfl : i = 3 := by omega
      have HP2 : Hid (KRow W kvss.flatten u3 kvss.flatten.length wr) := by have := HP.out; rwa [List.take_of_length_le (Nat.le_of_eq HD.out.lenk)] at this
      have HI0 := Lib.hid (HD.out.done HP2.out)
      obtain ⟨B, hB⟩ : ∃ B, wr.heap.size = B := ⟨_, rfl⟩
      rw [hB] at HI0
      have hml := HD.out.lens
      obtain ⟨ks, hks⟩ : ∃ ks, kvss.flatten = ks := ⟨_, rfl⟩
      rw [hks] at HI0 hml
      have hrr : RowR B own0 wr u3 ks := HI0.out.rows _ List.mem_cons_self
      obtain ⟨p3, c3, rfl, hu⟩ := hrr
      clear hu HP HP2 HD hB hks
      obtain ⟨nk, hnk⟩ : ∃ nk, ks.length = nk := ⟨_, rfl⟩
      have Hnk := Lib.hid hnk
      rw [hnk] at hml HI0 ⊢
      clear hnk
      -- the kinds are written over
      go_wp2
      go_loopw [6] (fun tv wq => ∃ t : Nat, tv = .int .i64 t ∧ t ≤ nk ∧ Hid (∃ own, Inv own0 W B vs ks [] [] (fun _ => 0) (fun s => if s < t then 1000 else 0) [(.slice p3 nk c3, ks), (.slice gp 3 gc, vs)] own wq)) (fun tv _ => nk - (intOf tv).toNat)
      case atStart => exact ⟨0, rfl, Nat.zero_le _, own0, HI0.out.chgK fun s _ => by simp⟩
      case round =>
        obtain ⟨t, rfl, ht, HQ⟩ := hrel
        by_cases hltt : t < nk
        · obtain ⟨x, hx⟩ : ∃ x, ks[t]? = some x := ⟨_, List.getElem?_eq_getElem (by rw [Hnk.out]; exact hltt)⟩
          obtain ⟨own, hI⟩ := HQ.out
          obtain ⟨xp, xn, xc, rfl, hxn, _⟩ := (hI.kf t x hx).shape
          obtain ⟨kb, rfl, hc0⟩ := hI.at List.mem_cons_self hx
          have HX := Lib.hid hx
          have HI := Lib.hid hI
          have ht0 : (0 : Int) ≤ (t : Int) := by omega
          have ht1 : (t : Int) < (nk : Int) := by omega
          clear hx hI HQ
          go_wp2
          go_loopw [7] (fun kk wq => ∃ k : Nat, kk = .int .i64 k ∧ k ≤ xn ∧ Hid (∃ own, Inv own0 W B vs ks [] [] (fun _ => 0) (fun s => if s < t then 1000 else if s = t then k else 0) [(.slice (some ⟨kb, 0, none⟩) nk c3, ks), (.slice gp 3 gc, vs)] own wq)) (fun kk _ => xn - (intOf kk).toNat)
          case atStart => exact ⟨0, rfl, Nat.zero_le _, own, HI.out.chgK fun s _ => by (repeat' split) <;> omega⟩
          case round =>
            obtain ⟨k, rfl, hk, HQ⟩ := hrel
            obtain ⟨own, hI⟩ := HQ.out
            obtain ⟨kb', e, hc1⟩ := hI.at List.mem_cons_self HX.out
            cases e
            by_cases hltk : k < xn
            · obtain ⟨p', n', c', e, _, hsh⟩ := (hI.kf t _ HX.out).shape
              simp only [Value.slice.injEq] at e
              obtain ⟨rfl, rfl, rfl⟩ := e
              obtain ⟨g, off, rfl, _, hnc, hth, _⟩ := hsh (by omega)
              have hsx := store_mark (k := -1000 - (t : Int)) (Option.isSome_iff_exists.1 (hth k (by rw [patK_len]; omega)).1).choose_spec (hth k (by rw [patK_len]; omega)).2
              have HI := Lib.hid (hI.storeK (b' := fun s => if s < t then 1000 else if s = t then k + 1 else 0) HX.out (by simp) hltk (by simp) (fun s hs => by simp [hs]))
              have hk0 : (0 : Int) ≤ (k : Int) := by omega
              have hk1 : (k : Int) < (xn : Int) := by omega
              clear hI HQ hsh hth
              go_wp2
              go_roundw
              case rel => exact ⟨k + 1, by go_num, by omega, own, HI.out⟩
              case measure => simp [intOf]; omega
            · obtain rfl : k = xn := by omega
              have HN := Lib.hid (hI.fullK (b' := fun s => if s < t + 1 then 1000 else 0) HX.out (k := k) (by simp) (Nat.le_refl _) (fun s hs => by (repeat' split) <;> omega))
              clear hI HQ
              go_wp2
              go_roundw
              case rel => exact ⟨t + 1, by go_num, by omega, own, HN.out⟩
              case measure => simp [intOf]; omega
        · obtain rfl : t = nk := by omega
          have HQ3 : Hid (∃ own, Inv own0 W B vs ks [] [] (fun _ => 0) (fun _ => 1000) [(.slice p3 t c3, ks), (.slice gp 3 gc, vs)] own wr) := by
            obtain ⟨own, hI⟩ := HQ.out
            exact ⟨own, hI.chgK fun s hs => by rw [Hnk.out] at hs; simp [hs]⟩
          clear HQ HI0
          -- the fields are written over
          go_wp2
          go_loopw [8] (fun tv wq => ∃ i : Nat, tv = .int .i64 i ∧ i ≤ 3 ∧ Hid (∃ own, Inv own0 W B vs ks [] [] (fun s => if s < i then 1000 else 0) (fun _ => 1000) [(.slice p3 t c3, ks), (.slice gp 3 gc, vs)] own wq)) (fun tv _ => 3 - (intOf tv).toNat)
          case atStart =>
            obtain ⟨own, hI⟩ := HQ3.out
            exact ⟨0, rfl, Nat.zero_le _, own, hI.chgV fun s _ => by simp⟩
          case round =>
            obtain ⟨i, rfl, hi, HQ⟩ := hrel
            by_cases hlti : i < 3
            · obtain ⟨x, hx⟩ : ∃ x, vs[i]? = some x := ⟨_, List.getElem?_eq_getElem (by rw [e3]; exact hlti)⟩
              obtain ⟨own, hI⟩ := HQ.out
              obtain ⟨xp, xn, xc, rfl, hxn, _⟩ := (hI.vf i x hx).shape
              obtain ⟨kb, rfl, hc0⟩ := hI.at (List.mem_cons_of_mem _ List.mem_cons_self) hx
              have HX := Lib.hid hx
              have HI := Lib.hid hI
              have ht0 : (0 : Int) ≤ (i : Int) := by omega
              have ht1 : (i : Int) < 3 := by omega
              clear hx hI HQ
              go_wp2
              go_loopw [9] (fun kk wq => ∃ k : Nat, kk = .int .i64 k ∧ k ≤ xn ∧ Hid (∃ own, Inv own0 W B vs ks [] [] (fun s => if s < i then 1000 else if s = i then k else 0) (fun _ => 1000) [(.slice p3 t c3, ks), (.slice (some ⟨kb, 0, none⟩) 3 gc, vs)] own wq)) (fun kk _ => xn - (intOf kk).toNat)
              case atStart => exact ⟨0, rfl, Nat.zero_le _, own, HI.out.chgV fun s _ => by (repeat' split) <;> omega⟩
              case round =>
                obtain ⟨k, rfl, hk, HQ⟩ := hrel
                obtain ⟨own, hI⟩ := HQ.out
                obtain ⟨kb', e, hc1⟩ := hI.at (List.mem_cons_of_mem _ List.mem_cons_self) HX.out
                cases e
                by_cases hltk : k < xn
                · obtain ⟨p', n', c', e, _, hsh⟩ := (hI.vf i _ HX.out).shape
                  simp only [Value.slice.injEq] at e
                  obtain ⟨rfl, rfl, rfl⟩ := e
                  obtain ⟨g, off, rfl, _, hnc, hth, _⟩ := hsh (by omega)
                  have hsx := store_field (i := i) (there_at (z := 9) hth (show k < xc by omega))
                  have HI := Lib.hid (hI.storeV (a' := fun s => if s < i then 1000 else if s = i then k + 1 else 0) HX.out (by simp) hltk (by simp) (fun s hs => by simp [hs]))
                  have hk0 : (0 : Int) ≤ (k : Int) := by omega
                  have hk1 : (k : Int) < (xn : Int) := by omega
                  obtain ⟨X, hX⟩ : ∃ X, wr.setCells g (off + k * 9) (patF (.inr i)) = X := ⟨_, rfl⟩
                  rw [hX] at hsx HI
                  clear hI HQ hsh hth hX
                  go_wp2
                  go_roundw
                  case rel => exact ⟨k + 1, by go_num, by omega, own, HI.out⟩
                  case measure => simp [intOf]; omega
                · obtain rfl : k = xn := by omega
                  have HN := Lib.hid (hI.fullV (a' := fun s => if s < i + 1 then 1000 else 0) HX.out (k := k) (by simp) (Nat.le_refl _) (fun s hs => by (repeat' split) <;> omega))
                  clear hI HQ
                  go_wp2
                  go_roundw
                  case rel => exact ⟨i + 1, by go_num, by omega, own, HN.out⟩
                  case measure => simp [intOf]; omega
            · obtain rfl : i = 3 := by omega
              have HQ4 : Hid (∃ own, Inv own0 W B vs ks [] [] (fun _ => 1000) (fun _ => 1000) [(.slice p3 t c3, ks), (.slice gp 3 gc, vs)] own wr) := by
                obtain ⟨own, hI⟩ := HQ.out
                exact ⟨own, hI.chgV fun s hs => by rw [e3] at hs; simp [hs]⟩
              clear HQ HQ3
              obtain ⟨ii, hi0, hi1, hi2, hi3⟩ := info_parts infoI
              obtain ⟨ik, hj0, hj1, hj2, hj3⟩ := info_parts infoK
              -- the kinds grow
              go_wp2
              go_loopw [10, 11] (fun gv tv wq => ∃ (i : Nat) (gk : List Value), tv = .int .i64 i ∧ i ≤ t ∧ gk.length = 8 * i ∧ Hid (∃ own, Inv own0 W B vs ks gk [] (fun _ => 1000) (fun _ => 1000) [(.slice p3 t c3, ks), (.slice gp 3 gc, vs)] own wq ∧ GR B 63 own wq gv gk)) (fun _ tv _ => t - (intOf tv).toNat)
              case atStart =>
                obtain ⟨own, hI⟩ := HQ4.out
                exact ⟨0, [], rfl, Nat.zero_le _, rfl, own, hI, GR.new⟩
              case round =>
                obtain ⟨i, gk, rfl, hi, hgk, HQ⟩ := hrel
                by_cases hlti : i < t
                · obtain ⟨x, hx⟩ : ∃ x, ks[i]? = some x := ⟨_, List.getElem?_eq_getElem (by rw [Hnk.out]; exact hlti)⟩
                  obtain ⟨own, hI, hG⟩ := HQ.out
                  have hf := hI.kf i x hx
                  obtain ⟨xp, xn, xc, rfl, hxn, _⟩ := hf.shape
                  obtain ⟨kb, rfl, hc0⟩ := hI.at List.mem_cons_self hx
                  have HX := Lib.hid hx
                  have HI := Lib.hid hI
                  have HG := Lib.hid hG
                  have HF := Lib.hid hf
                  have ht0 : (0 : Int) ≤ (i : Int) := by omega
                  have ht1 : (i : Int) < (t : Int) := by omega
                  clear hx hI hG hf HQ
                  go_wp2
                  go_loopw [10, 12, 13] (fun gv x kk wq => ∃ (k : Nat) (gk : List Value), kk = .int .i64 k ∧ k ≤ 7 ∧ gk.length = 8 * i + k ∧ Hid (∃ own, Inv own0 W B vs ks gk [] (fun _ => 1000) (fun _ => 1000) [(.slice (some ⟨kb, 0, none⟩) t c3, ks), (.slice gp 3 gc, vs)] own wq ∧ GR B 63 own wq gv gk ∧ Fam patF own wq (.inl i) (1000 + k) (1000 + k) x)) (fun _ _ kk _ => 7 - (intOf kk).toNat)
                  case atStart => exact ⟨0, gk, rfl, by omega, hgk, own, HI.out, HG.out, HF.out⟩
                  case round =>
                    obtain ⟨k, gk2, rfl, hk, hgk2, HQ⟩ := hrel
                    obtain ⟨own, hI, hG, hF⟩ := HQ.out
                    by_cases hltk : k < 7
                    · have hk1 : (k : Int) < 7 := by omega
                      have hFa : ∀ o, Fam patF own (wr.alloc o) (.inl i) (1000 + k) (1000 + k) u12 := fun o => (OStep.grown hI.dom (grown_alloc wr o) (fun _ e => by cases e)).fam _ _ _ _ hF
                      have hmx : 1000 + k + 1 ≤ maxLen := by unfold maxLen; omega
                      have hmg : gk2.length + 1 ≤ maxLen := by unfold maxLen; omega
                      have hBw : B ≤ wr.heap.size := hI.Bw
                      go_wp2_with (first
                        | (at_builtin; refine wpList_append_fam (pat := patF) (own := own) _ rfl _ _ 63 rfl 3 ii (.int .i64 0) 1 8 Tryz.underlying63 hi0 hi1 hi2 hi3 rfl (by decide) (.inl i) rfl (patF_one _) (hI.alloc _).dom (1000 + k) _ rfl (hFa _) hmx (by omega) ⟨wr.heap.size, 0, none⟩ rfl (cell_one_new _ _ _) ?_
                           intro x' w3 own3 hst3 hF3 hsh3
                           obtain ⟨g', off', n', c', rfl⟩ := hsh3
                           have hI3 := (hI.alloc _).step hst3 (fun _ e => by cases e)
                           have hG3 := (hG.alloc hI.dom _).step hst3
                           have hFb : ∀ o, Fam patF own3 (w3.alloc o) (.inl i) (1000 + k + 1) (1000 + k + 1) _ := fun o => (OStep.grown hI3.dom (grown_alloc w3 o) (fun _ e => by cases e)).fam _ _ _ _ hF3
                           have hBw3 : B ≤ w3.heap.size := hI3.Bw
                           have HI3 := Lib.hid hI3; have HG3 := Lib.hid hG3; have HFb := Lib.hid hFb
                           clear hI hG hF hFa hI3 hG3 hFb hst3 hF3 HQ)
                        | (at_builtin; go_must (refine wpList_append_own_at _ rfl _ _ 66 rfl B 63 ik (.slice none 0 0) 1 24 Tryz.underlying66 hj0 hj1 hj2 hj3 rfl (by decide) _ gk2.length gk2 rfl (HG3.out.alloc HI3.out.dom _).1 ⟨w3.heap.size, 0, none⟩ 1 1 [.slice (some ⟨g', off', none⟩) (n' + 1) c'] rfl rfl (cell_one_new _ _ _) (by simp [Value.oneCell']) hmg (by omega) (by simp; omega) ?_)
                           intro vg' w4 hown4 hgrow4 hnil4 hat4
                           obtain ⟨hG4, hst4⟩ := (HG3.out.alloc HI3.out.dom _).more (HI3.out.alloc _).dom hown4 hgrow4 hat4
                           have HQ4 := Lib.hid (And.intro (((HI3.out.alloc _).stepRow (HG3.out.alloc HI3.out.dom _) hst4).pushK (hst4.fam _ _ _ _ (HFb.out _)) (by omega) (by omega : gk2.length / 8 = i)) (And.intro hG4 (hst4.fam _ _ _ _ (HFb.out _))))
                           clear hown4 hgrow4 hnil4 hat4 hG4 hst4)
                        | go_in)
                      go_roundw
                      case rel => exact ⟨k + 1, _, by go_num, by omega, by simp; omega, own3, HQ4.out⟩
                      case measure => simp [intOf]; omega
                    · obtain rfl : k = 7 := by omega
                      have HF2 := Lib.hid (hI.kf i _ HX.out)
                      obtain ⟨kb', e, hc1⟩ := hI.at List.mem_cons_self HX.out
                      cases e
                      have HI := Lib.hid hI
                      have HG := Lib.hid hG
                      have hmg : gk2.length + 1 ≤ maxLen := by unfold maxLen; omega
                      have hBw : B ≤ wr.heap.size := hI.Bw
                      have e7 : ((7 : Nat) : Int) = 7 := rfl
                      rw [e7]
                      clear hI hG hF HQ
                      go_wp2_with (first
                        | (at_builtin; go_must (refine wpList_append_own_at _ rfl _ _ 66 rfl B 63 ik (.slice none 0 0) 1 24 Tryz.underlying66 hj0 hj1 hj2 hj3 rfl (by decide) _ gk2.length gk2 rfl (HG.out.alloc HI.out.dom _).1 ⟨wr.heap.size, 0, none⟩ 1 1 [.slice xp xn xc] rfl rfl (cell_one_new _ _ _) (by simp [Value.oneCell']) hmg (by omega) (by simp; omega) ?_)
                           intro vg' w4 hown4 hgrow4 hnil4 hat4
                           obtain ⟨hG4, hst4⟩ := (HG.out.alloc HI.out.dom _).more (HI.out.alloc _).dom hown4 hgrow4 hat4
                           have HQ4 := Lib.hid (And.intro (((HI.out.alloc _).stepRow (HG.out.alloc HI.out.dom _) hst4).pushK (hst4.fam _ _ _ _ ((OStep.grown HI.out.dom (grown_alloc wr _) (fun _ e => by cases e)).fam _ _ _ _ HF2.out)) (by omega) (by omega : gk2.length / 8 = i)) hG4)
                           clear hown4 hgrow4 hnil4 hat4 hG4 hst4)
                        | go_in)
                      go_roundw
                      case rel => exact ⟨i + 1, _, by go_num, by omega, by simp; omega, own, HQ4.out⟩
                      case measure => simp [intOf]; omega
                · obtain rfl : i = t := by omega
                  obtain ⟨own, hI, hG⟩ := HQ.out
                  have hI5 := hI.raise hG.1 hG.2
                  have hrr : RowR wr.heap.size own wr u10 gk := hI5.rows _ List.mem_cons_self
                  obtain ⟨p10, c10, rfl, hu⟩ := hrr
                  obtain ⟨B5, hB5⟩ : ∃ B5, wr.heap.size = B5 := ⟨_, rfl⟩
                  rw [hB5] at hI5
                  have HI5 := Lib.hid hI5
                  clear hI hG hu hB5 hI5 HQ HQ4
                  obtain ⟨nf, hf0, hf1, hf2, hf3⟩ := info_parts infoF
                  obtain ⟨il, hl0, hl1, hl2, hl3⟩ := info_parts infoL
                  obtain ⟨nG, hnG⟩ : ∃ n, gk.length = n := ⟨_, rfl⟩
                  have HnG := Lib.hid hnG
                  rw [hnG] at HI5 hgk ⊢
                  clear hnG
                  -- the fields grow
                  go_wp2
                  go_loopw [14, 15] (fun gv tv wq => ∃ (j : Nat) (gg : List Value), tv = .int .i64 j ∧ j ≤ 3 ∧ gg.length = 8 * j ∧ Hid (∃ own, Inv own0 W B5 vs ks gk gg (fun _ => 1000) (fun _ => 1000) [(.slice p10 nG c10, gk), (.slice p3 i c3, ks), (.slice gp 3 gc, vs)] own wq ∧ GR B5 23 own wq gv gg)) (fun _ tv _ => 3 - (intOf tv).toNat)
                  case atStart => exact ⟨0, [], rfl, Nat.zero_le _, rfl, own, HI5.out, GR.new⟩
                  case round =>
                    obtain ⟨j, gg, rfl, hj, hgg, HQ⟩ := hrel
                    by_cases hltj : j < 3
                    · obtain ⟨x, hx⟩ : ∃ x, vs[j]? = some x := ⟨_, List.getElem?_eq_getElem (by rw [e3]; exact hltj)⟩
                      obtain ⟨own, hI, hG⟩ := HQ.out
                      have hf := hI.vf j x hx
                      obtain ⟨xp, xn, xc, rfl, hxn, _⟩ := hf.shape
                      obtain ⟨kb, rfl, hc0⟩ := hI.at (List.mem_cons_of_mem _ (List.mem_cons_of_mem _ List.mem_cons_self)) hx
                      have HX := Lib.hid hx
                      have HI := Lib.hid hI
                      have HG := Lib.hid hG
                      have HF := Lib.hid hf
                      have ht0 : (0 : Int) ≤ (j : Int) := by omega
                      have ht1 : (j : Int) < 3 := by omega
                      clear hx hI hG hf HQ
                      go_wp2
                      go_loopw [14, 16, 17] (fun gv x kk wq => ∃ (k : Nat) (gg : List Value), kk = .int .i64 k ∧ k ≤ 7 ∧ gg.length = 8 * j + k ∧ Hid (∃ own, Inv own0 W B5 vs ks gk gg (fun _ => 1000) (fun _ => 1000) [(.slice p10 nG c10, gk), (.slice p3 i c3, ks), (.slice (some ⟨kb, 0, none⟩) 3 gc, vs)] own wq ∧ GR B5 23 own wq gv gg ∧ Fam patF own wq (.inr j) (1000 + k) (1000 + k) x)) (fun _ _ kk _ => 7 - (intOf kk).toNat)
                      case atStart => exact ⟨0, gg, rfl, by omega, hgg, own, HI.out, HG.out, HF.out⟩
                      case round =>
                        obtain ⟨k, gg2, rfl, hk, hgg2, HQ⟩ := hrel
                        obtain ⟨own, hI, hG, hF⟩ := HQ.out
                        by_cases hltk : k < 7
                        · have hk1 : (k : Int) < 7 := by omega
                          have hFa : ∀ o, Fam patF own (wr.alloc o) (.inr j) (1000 + k) (1000 + k) u16 := fun o => (OStep.grown hI.dom (grown_alloc wr o) (fun _ e => by cases e)).fam _ _ _ _ hF
                          have hmx : 1000 + k + 1 ≤ maxLen := by unfold maxLen; omega
                          have hmg : gg2.length + 1 ≤ maxLen := by unfold maxLen; omega
                          have hBw : B5 ≤ wr.heap.size := hI.Bw
                          go_wp2_with (first
                            | (at_builtin; refine wpList_append_fam (pat := patF) (own := own) _ rfl _ _ 23 rfl 65 nf _ 9 120 Tryz.underlying23 hf0 hf1 hf2 hf3 rfl (by decide) (.inr j) rfl (patF_one _) (hI.alloc _).dom (1000 + k) _ rfl (hFa _) hmx (by omega) ⟨wr.heap.size, 0, none⟩ rfl (field_new _ _ _) ?_
                               intro x' w3 own3 hst3 hF3 hsh3
                               obtain ⟨g', off', n', c', rfl⟩ := hsh3
                               have hI3 := (hI.alloc _).step hst3 (fun _ e => by cases e)
                               have hG3 := (hG.alloc hI.dom _).step hst3
                               have hFb : ∀ o, Fam patF own3 (w3.alloc o) (.inr j) (1000 + k + 1) (1000 + k + 1) _ := fun o => (OStep.grown hI3.dom (grown_alloc w3 o) (fun _ e => by cases e)).fam _ _ _ _ hF3
                               have hBw3 : B5 ≤ w3.heap.size := hI3.Bw
                               have HI3 := Lib.hid hI3; have HG3 := Lib.hid hG3; have HFb := Lib.hid hFb
                               clear hI hG hF hFa hI3 hG3 hFb hst3 hF3 HQ)
                            | (at_builtin; go_must (refine wpList_append_own_at _ rfl _ _ 29 rfl B5 23 il (.slice none 0 0) 1 24 Tryz.underlying29 hl0 hl1 hl2 hl3 rfl (by decide) _ gg2.length gg2 rfl (HG3.out.alloc HI3.out.dom _).1 ⟨w3.heap.size, 0, none⟩ 1 1 [.slice (some ⟨g', off', none⟩) (n' + 1) c'] rfl rfl (cell_one_new _ _ _) (by simp [Value.oneCell']) hmg (by omega) (by simp; omega) ?_)
                               intro vg' w4 hown4 hgrow4 hnil4 hat4
                               obtain ⟨hG4, hst4⟩ := (HG3.out.alloc HI3.out.dom _).more (HI3.out.alloc _).dom hown4 hgrow4 hat4
                               have HQ4 := Lib.hid (And.intro (((HI3.out.alloc _).stepRow (HG3.out.alloc HI3.out.dom _) hst4).pushV (hst4.fam _ _ _ _ (HFb.out _)) (by omega) (by omega : gg2.length / 8 = j)) (And.intro hG4 (hst4.fam _ _ _ _ (HFb.out _))))
                               clear hown4 hgrow4 hnil4 hat4 hG4 hst4)
                            | go_in)
                          go_roundw
                          case rel => exact ⟨k + 1, _, by go_num, by omega, by simp; omega, own3, HQ4.out⟩
                          case measure => simp [intOf]; omega
                        · obtain rfl : k = 7 := by omega
                          have HF2 := Lib.hid (hI.vf j _ HX.out)
                          obtain ⟨kb', e, hc1⟩ := hI.at (List.mem_cons_of_mem _ (List.mem_cons_of_mem _ List.mem_cons_self)) HX.out
                          cases e
                          have HI := Lib.hid hI
                          have HG := Lib.hid hG
                          have hmg : gg2.length + 1 ≤ maxLen := by unfold maxLen; omega
                          have hBw : B5 ≤ wr.heap.size := hI.Bw
                          have e7 : ((7 : Nat) : Int) = 7 := rfl
                          rw [e7]
                          clear hI hG hF HQ
                          go_wp2_with (first
                            | (at_builtin; go_must (refine wpList_append_own_at _ rfl _ _ 29 rfl B5 23 il (.slice none 0 0) 1 24 Tryz.underlying29 hl0 hl1 hl2 hl3 rfl (by decide) _ gg2.length gg2 rfl (HG.out.alloc HI.out.dom _).1 ⟨wr.heap.size, 0, none⟩ 1 1 [.slice xp xn xc] rfl rfl (cell_one_new _ _ _) (by simp [Value.oneCell']) hmg (by omega) (by simp; omega) ?_)
                               intro vg' w4 hown4 hgrow4 hnil4 hat4
                               obtain ⟨hG4, hst4⟩ := (HG.out.alloc HI.out.dom _).more (HI.out.alloc _).dom hown4 hgrow4 hat4
                               have HQ4 := Lib.hid (And.intro (((HI.out.alloc _).stepRow (HG.out.alloc HI.out.dom _) hst4).pushV (hst4.fam _ _ _ _ ((OStep.grown HI.out.dom (grown_alloc wr _) (fun _ e => by cases e)).fam _ _ _ _ HF2.out)) (by omega) (by omega : gg2.length / 8 = j)) hG4)
                               clear hown4 hgrow4 hnil4 hat4 hG4 hst4)
                            | go_in)
                          go_roundw
                          case rel => exact ⟨j + 1, _, by go_num, by omega, by simp; omega, own, HQ4.out⟩
                          case measure => simp [intOf]; omega
                    · obtain rfl : j = 3 := by omega
                      obtain ⟨own, hI, hG⟩ := HQ.out
                      have hI6 := hI.raise hG.1 hG.2
                      have hrr : RowR wr.heap.size own wr u14 gg := hI6.rows _ List.mem_cons_self
                      obtain ⟨p14, c14, rfl, hu⟩ := hrr
                      obtain ⟨B6, hB6⟩ : ∃ B6, wr.heap.size = B6 := ⟨_, rfl⟩
                      rw [hB6] at hI6
                      have HI := Lib.hid hI6
                      rename World => w5
                      rw [hgg] at HI ⊢
                      clear hI hG hu hB6 hI6 HQ HI5
                      -- the kinds are looked at
                      go_wp2
                      go_loopw [18] (fun sv wq => ∃ s : Nat, sv = .int .i64 s ∧ s ≤ nG ∧ wq = w5) (fun sv _ => nG - (intOf sv).toNat)
                      case atStart => exact ⟨0, rfl, Nat.zero_le _, rfl⟩
                      case round =>
                        obtain ⟨s, rfl, hs, rfl⟩ := hrel
                        by_cases hlts : s < nG
                        · obtain ⟨x, hx⟩ : ∃ x, gk[s]? = some x := ⟨_, List.getElem?_eq_getElem (by rw [HnG.out]; exact hlts)⟩
                          have hf := HI.out.gkf s x hx
                          obtain ⟨xp, xn, xc, rfl, hxn, hsh⟩ := hf.shape
                          obtain ⟨kb, rfl, hc0⟩ := HI.out.at (List.mem_cons_of_mem _ List.mem_cons_self) hx
                          have HS := Lib.hid hsh
                          have hs0 : (0 : Int) ≤ (s : Int) := by omega
                          have hs1 : (s : Int) < (nG : Int) := by omega
                          clear hx hf hsh
                          go_wp2
                          go_loopw [19] (fun kk wq => ∃ k : Nat, kk = .int .i64 k ∧ k ≤ xn ∧ wq = wr) (fun kk _ => xn - (intOf kk).toNat)
                          case atStart => exact ⟨0, rfl, Nat.zero_le _, rfl⟩
                          case round =>
                            obtain ⟨k, rfl, hk, rfl⟩ := hrel
                            by_cases hltk : k < xn
                            · obtain ⟨b, off, rfl, _, _, _, hcell⟩ := HS.out (by omega)
                              have hc1 : wr.cell? ⟨b, off + k, none⟩ = some (.int .i64 (-1000 - ((s / 8 : Nat) : Int))) := by
                                have := hcell k (by omega) hltk 0 _ rfl
                                rwa [patK_len, Nat.mul_one, Nat.add_zero] at this
                              have ed : (s : Int).tdiv 8 = ((s / 8 : Nat) : Int) := by
                                rw [Int.tdiv_eq_ediv_of_nonneg (by omega)]; omega
                              have hk0 : (0 : Int) ≤ (k : Int) := by omega
                              have hk1 : (k : Int) < (xn : Int) := by omega
                              clear hcell
                              go_wp2
                              go_roundw
                              case rel => exact ⟨k + 1, by go_num, by omega, trivial⟩
                              case measure => simp [intOf]; omega
                            · obtain rfl : k = xn := by omega
                              go_wp2
                              go_roundw
                              case rel => exact ⟨s + 1, by go_num, by omega, trivial⟩
                              case measure => simp [intOf]; omega
                        · obtain rfl : s = nG := by omega
                          -- the fields are looked at
                          go_wp2
                          go_loopw [20] (fun sv wq => ∃ r : Nat, sv = .int .i64 r ∧ r ≤ 24 ∧ wq = wr) (fun sv _ => 24 - (intOf sv).toNat)
                          case atStart => exact ⟨0, rfl, Nat.zero_le _, rfl⟩
                          case round =>
                            obtain ⟨r, rfl, hr, rfl⟩ := hrel
                            by_cases hltr : r < 24
                            · obtain ⟨x, hx⟩ : ∃ x, gg[r]? = some x := ⟨_, List.getElem?_eq_getElem (by omega)⟩
                              have hf := HI.out.ggf r x hx
                              obtain ⟨xp, xn, xc, rfl, hxn, hsh⟩ := hf.shape
                              obtain ⟨kb, rfl, hc0⟩ := HI.out.at List.mem_cons_self hx
                              have HS := Lib.hid hsh
                              have hs0 : (0 : Int) ≤ (r : Int) := by omega
                              have hs1 : (r : Int) < 24 := by omega
                              clear hx hf hsh
                              go_wp2
                              go_loopw [21] (fun kk wq => ∃ k : Nat, kk = .int .i64 k ∧ k ≤ xn ∧ wq = wr) (fun kk _ => xn - (intOf kk).toNat)
                              case atStart => exact ⟨0, rfl, Nat.zero_le _, rfl⟩
                              case round =>
                                obtain ⟨k, rfl, hk, rfl⟩ := hrel
                                by_cases hltk : k < xn
                                · obtain ⟨b, off, rfl, _, _, _, hcell⟩ := HS.out (by omega)
                                  have hc1 : wr.cell? ⟨b, off + k * 9 + 1, none⟩ = some (.int .i64 (-1000 - ((r / 8 : Nat) : Int))) := by
                                    have := hcell k (by omega) hltk 1 _ rfl
                                    rwa [patV_len] at this
                                  have ed : (r : Int).tdiv 8 = ((r / 8 : Nat) : Int) := by
                                    rw [Int.tdiv_eq_ediv_of_nonneg (by omega)]; omega
                                  have hk0 : (0 : Int) ≤ (k : Int) := by omega
                                  have hk1 : (k : Int) < (xn : Int) := by omega
                                  clear hcell
                                  go_wp2
                                  go_roundw
                                  case rel => exact ⟨k + 1, by go_num, by omega, trivial⟩
                                  case measure => simp [intOf]; omega
                                · obtain rfl : k = xn := by omega
                                  go_wp2
                                  go_roundw
                                  case rel => exact ⟨r + 1, by go_num, by omega, trivial⟩
                                  case measure => simp [intOf]; omega
                            · obtain rfl : r = 24 := by omega
                              go_wp2
                              go_ret
                              exact ⟨rfl, own, HI.out.st⟩
end Go.Proofs.YtfoiaiblggapeaaGreatDoor.Fd
