/-
  strings.HasPrefix at the names' beginning. No condition but the string's size.
-/
import Derived.Test.YtfoiaiblggapeaaGreatDoorV3
import Derived.Test.YtfoiaiblggapeaaGreatDoorNuKind
import Derived.Test.YtfoiaiblggapeaaGreatDoorNm2
import Derived.Test.YtfoiaiblggapeaaGreatDoorNm3
namespace Go.Proofs.YtfoiaiblggapeaaGreatDoor.Va
open Go Go.RowKit Go.Proofs.Nu Go.Proofs.YtfoiaiblggapeaaGreatDoor.Nm
attribute [local go_sem ↓] Go.wp_at_zero Go.wp_at_succ

def PreAns (s : ByteArray) (w : World) (r : Ending) (w' : World) : Prop := ∃ b, r = .returned (.bool b) ∧ (b = true ↔ lng <+: s.data.toList) ∧ w' = w
set_option maxRecDepth 100000 in
set_option maxHeartbeats 1000000 in
theorem prefix_in (s : ByteArray) (w : World) (hs : s.size ≤ 9223372036854775807) :
    Calls Tryz.prog 125 #[.string s, .string ⟨#[108, 111, 110, 103, 115, 104, 111, 114, 101, 58]⟩] w (PreAns s w) := by
  go_enter Tryz.func125, Tryz.ntmps125
  by_cases h : 10 ≤ s.size
  · go_wp2
    go_ret
    refine ⟨_, rfl, ?_, rfl⟩
    rw [Lib.toList_data, Lib.extract_data, List.prefix_iff_eq_take, beq_iff_eq]
    exact ⟨fun h => Eq.symm h, fun h => Eq.symm h⟩
  · go_wp2
    go_ret
    refine ⟨false, rfl, ⟨fun hp => (by cases hp), fun hp => absurd hp.length_le ?_⟩, rfl⟩
    rw [← Lib.size_eq]
    simp [lng]; omega
set_option maxRecDepth 100000 in
theorem prefix_any (s : ByteArray) (w : World) (hs : s.size ≤ 9223372036854775807) :
    Calls Tryz.prog 113 #[.string s, .string ⟨#[108, 111, 110, 103, 115, 104, 111, 114, 101, 58]⟩] w (PreAns s w) := by
  go_enter Tryz.func113, Tryz.ntmps113
  go_wp2_with (go_at_call 125; refine (prefix_in s _ hs).mono ?_; rintro r w2 ⟨b, rfl, hb, rfl⟩; have HB := Lib.hid hb; clear hb)
  go_ret
  exact ⟨_, rfl, HB.out, rfl⟩

theorem toEmpt {s : ByteArray} (h : s.toList = []) : s = empt := toList_inj (by rw [h, Lib.toList_data]; rfl)
theorem len_of_bne2 {a : Nat} (h : ((a : Int) != 2) = false) : a = 2 := by simp at h; omega
theorem not_yet {ds : ByteArray} {q : Int} (h : ∀ i, 16 ≤ i → i < q → nameL i ≠ [] → ds ≠ nameB i) (hq : ¬ ds = nameB q) : ∀ i, 16 ≤ i → i < q + 1 → nameL i ≠ [] → ds ≠ nameB i := fun i h1 h2 h3 => by
  by_cases hi : i = q
  · rw [hi]; exact hq
  · exact h i h1 (by omega) h3
/-- What Kind answers. -/
def kindAns (o : Option Int) : Value := .tuple #[.int .i64 (kNum o), .bool o.isSome]

set_option maxRecDepth 100000 in
set_option maxHeartbeats 2000000 in
theorem kind_raw {N B : Nat} {k m : Int} {s : ByteArray} {e : Int} {l : List VT} {lv : Value} {w : World} {t : TypeId} (hl : LAt B w N lv l) (hf : (VT.mk k m s e l).Fine) (hB : B ≤ w.heap.size)
    (hsp : w.heap[0]? = some (.cells (Lib.asciiSpaceTab.map fun z => Value.int .u8 z).toArray t (0, 0))) :
    Calls Tryz.prog 93 #[.agg #[.int .i64 k, .int .u64 m, .string s, lv, .int .i64 e]] w fun r w' => r = .returned (kindAns (kindOf (.mk k m s e l))) ∧ Below w.heap.size w w' := by
  have HSP : Hid (∀ W', Below w.heap.size w W' → W'.heap[0]? = some (.cells (Lib.asciiSpaceTab.map fun z => Value.int .u8 z).toArray t (0, 0))) := fun W' h => (h.block _ (Array.getElem?_eq_some_iff.1 hsp).1).trans hsp
  clear hsp
  obtain ⟨p, c, rfl⟩ := hl.slice
  have hlen : l.length ≤ 9223372036854775807 := hl.len
  by_cases hd : k = 24 ∧ l.length = 2
  · obtain ⟨rfl, hl2⟩ := hd
    obtain ⟨d, x, rfl⟩ : ∃ d x, l = [d, x] := by
      match l, hl2 with
      | [d, x], _ => exact ⟨d, x, rfl⟩
    cases N with
    | zero => exact hl.elim
    | succ N =>
      rcases hl with ⟨h0, _⟩ | ⟨b, off, c', hp, hbB, _, hel⟩
      · cases h0
      cases hp
      obtain ⟨hfd, lv, hat, hld⟩ := hel 0 d rfl
      obtain ⟨p, c1, rfl⟩ := hld.slice
      simp only [Nat.zero_mul, Nat.add_zero] at hat
      obtain ⟨e0, e1, e2, e3, e4⟩ := hat
      have hdl : d.list.length ≤ 9223372036854775807 := hld.len
      obtain ⟨n0, n1, hx⟩ : 0 ≤ d.num ∧ d.num ≤ 18446744073709551615 ∧ d.text.size ≤ 9223372036854775807 := ⟨hfd.n0, hfd.n1, hfd.x1⟩
      have hb0 : b < w.heap.size := by omega
      have hans : kindOf (.mk 24 m s e [d, x]) = kindD d := by simp [kindOf, VT.kind, VT.list]
      rw [hans]
      clear hel hld hans hf hlen hl2
      rw [show ([d, x] : List VT).length = 2 from rfl]
      obtain ⟨K, hK⟩ : ∃ K, kindD d = K := ⟨_, rfl⟩
      rw [hK]
      have HK := Lib.hid hK
      clear hK
      obtain ⟨dk, dm, ds, de, dl⟩ := d
      simp only [VT.kind, VT.num, VT.text, VT.elem, VT.list] at *
      by_cases hn : NumD (.mk dk dm ds de dl)
      · have h1 := hn.kind
        have h2 := hn.text
        have h3 := hn.elem
        have h4 := hn.list
        simp only [VT.kind, VT.text, VT.elem, VT.list] at h1 h2 h3 h4
        subst h1 h2 h3 h4
        have hemp : empt.toList = [] := by rw [Lib.toList_data]; rfl
        by_cases hle : dm ≤ 120
        · by_cases hne : nameL dm = []
          · have HN := Lib.hid (kindD_num_none hn hne)
            have hnb : (nameB dm).toList = [] := by rw [nameB_toList, hne]
            clear hn hne
            go_enter Tryz.func93, Tryz.ntmps93
            go_wp2_with (go_at_call 10; refine Calls.mono (name_any dm (HSP.out _ ?_) (by omega) (by omega)) ?_; (repeat (first | exact Below.refl _ _ | refine Below.alloc ?_ (by simp) _ | refine Below.setCell ?_ (by simp) _)); rintro r w2 ⟨rfl, hb2⟩)
            go_ret2
            refine ⟨by rw [← HK.out, HN.out]; rfl, Below.trans ?_ (hb2.mono (by simp; omega))⟩
            (repeat (first | exact Below.refl _ _ | refine Below.alloc ?_ (by simp) _ | refine Below.setCell ?_ (by simp) _))
          · have HN := Lib.hid (kindD_num hn hne)
            have hnb : (!(nameB dm).toList.isEmpty) = true := by rw [nameB_toList]; simpa using hne
            clear hn hne
            go_enter Tryz.func93, Tryz.ntmps93
            go_wp2_with (go_at_call 10; refine Calls.mono (name_any dm (HSP.out _ ?_) (by omega) (by omega)) ?_; (repeat (first | exact Below.refl _ _ | refine Below.alloc ?_ (by simp) _ | refine Below.setCell ?_ (by simp) _)); rintro r w2 ⟨rfl, hb2⟩)
            go_ret2
            refine ⟨by rw [← HK.out, HN.out]; rfl, Below.trans ?_ (hb2.mono (by simp; omega))⟩
            (repeat (first | exact Below.refl _ _ | refine Below.alloc ?_ (by simp) _ | refine Below.setCell ?_ (by simp) _))
        · have HN := Lib.hid (kindD_num_none hn (name_out (.inr (by show 120 < dm; omega))))
          clear hn
          go_enter Tryz.func93, Tryz.ntmps93
          go_wp2
          go_ret2
          refine ⟨by rw [← HK.out, HN.out]; rfl, ?_⟩
          (repeat (first | exact Below.refl _ _ | refine Below.alloc ?_ (by simp) _ | refine Below.setCell ?_ (by simp) _))
      · by_cases hs : SymD (.mk dk dm ds de dl)
        · have HS := Lib.hid hs
          have h1 := hs.kind
          have h2 := hs.num
          have h3 := hs.elem
          have h4 := hs.list
          simp only [VT.kind, VT.num, VT.elem, VT.list] at h1 h2 h3 h4
          subst h1 h2 h3 h4
          clear hs hn
          go_enter Tryz.func93, Tryz.ntmps93
          go_wp2_with (go_at_call 113; refine (prefix_any ds _ hx).mono ?_; rintro r w2 ⟨bb, rfl, hbb, rfl⟩; have HBB := Lib.hid hbb; clear hbb)
          · obtain ⟨W1, hW1⟩ : ∃ W1, (w.alloc (.cells #[.int .i64 24, .int .u64 m, .string s, .slice (some ⟨b, off, none⟩) 2 c, .int .i64 e] 42)).alloc (.cells #[.int .i64 20, .int .u64 0, .string ds, .slice p 0 c1, .int .i64 0] 42) = W1 := ⟨_, rfl⟩
            have hz1 : W1.heap.size = w.heap.size + 2 := by rw [← hW1]; simp
            have hc2 : W1.cell? ⟨w.heap.size + 1, 2, none⟩ = some (.string ds) := by rw [← hW1]; simp
            have hb1 : Below w.heap.size w W1 := by rw [← hW1]; exact ((Below.refl _ _).alloc (Nat.le_refl _) _).alloc (by simp) _
            rw [hW1]
            have hbt : bb = true := by assumption
            have hlngH : Hid (lng <+: ds.data.toList) := HBB.out.1 hbt
            clear hW1 HBB e0 e1 e2 e3 e4
            subst hbt
            go_loopw [6] (fun i wr => ∃ (q : Int), i = .int .i64 q ∧ 16 ≤ q ∧ q ≤ 121 ∧ Hid (∀ i, 16 ≤ i → i < q → nameL i ≠ [] → ds ≠ nameB i) ∧ Below (w.heap.size + 2) W1 wr) (fun i _ => (121 - intOf i).toNat)
            case atStart => exact ⟨16, rfl, by omega, by omega, fun i h1 h2 => by omega, Below.refl _ _⟩
            case round =>
              obtain ⟨q, rfl, hq0, hq1, HQ, hb⟩ := hrel
              have d2 : wr.cell? ⟨w.heap.size + 1, 2, none⟩ = some (.string ds) := (hb.cell (p := ⟨w.heap.size + 1, 2, none⟩) (by simp)).trans hc2
              have hbw : Below w.heap.size w wr := hb1.trans (hb.mono (by omega))
              have HBW := Lib.hid hbw
              have hzw : w.heap.size + 2 ≤ wr.heap.size := by have := hb.size; omega
              clear hbw
              by_cases hlt : q ≤ 120
              · have HALL : Hid (∀ w', Below wr.heap.size wr w' → (Below wr.heap.size wr w' ∧ w'.cell? ⟨w.heap.size + 1, 2, none⟩ = some (.string ds))) := fun w' h => ⟨h, (h.cell (p := ⟨w.heap.size + 1, 2, none⟩) (by show w.heap.size + 1 < wr.heap.size; omega)).trans d2⟩
                go_wp2
                go_region_held3 (fun w' => Below wr.heap.size wr w' ∧ w'.cell? ⟨w.heap.size + 1, 2, none⟩ = some (.string ds))
                  (first
                    | exact HALL.out _ (Below.refl _ _)
                    | exact HALL.out _ (Below.refl _ _).drew
                    | exact HALL.out _ hb2
                    | exact HALL.out _ (((Below.refl _ _).drew).trans hb2)
                    | assumption)
                  ((go_at_call 10; refine (name_any q (HSP.out _ (HBW.out.drew)) (by omega) (by omega)).mono ?_; rintro r w2 ⟨rfl, hb2⟩; replace hb2 : Below wr.heap.size wr.drew w2 := hb2))
                have hb3 : Below (w.heap.size + 2) W1 w2 := hb.trans ((((Below.refl _ _).drew).trans hb2).mono hzw)
                clear HALL
                go_wp2
                · rename_i hte
                  have heq : ds = nameB q := (toList_inj (by simpa using hte)).symm
                  go_ret2
                  have HN := kindD_sym HS.out (k := q) (fun h => by
                    have h' : ds = empt := h
                    have := hlngH.out
                    rw [h'] at this
                    exact absurd this.length_le (by decide)) heq HQ.out
                  exact ⟨by rw [← HK.out, HN]; rfl, hb1.trans (hb3.mono (by omega))⟩
                · rename_i hte
                  have hne : ¬ ds = nameB q := fun h => by rw [h] at hte; simp at hte
                  go_roundw
                  case rel => exact ⟨q + 1, rfl, by omega, by omega, not_yet HQ.out hne, hb3⟩
                  case measure => simp [intOf]; omega
              · obtain rfl : q = 121 := by omega
                go_wp2
                go_ret2
                have HN := kindD_sym_none HS.out fun i h1 h2 h3 => HQ.out i h1 (by omega) h3
                exact ⟨by rw [← HK.out, HN]; rfl, HBW.out⟩
          · go_ret2
            have HN := kindD_sym_none HS.out fun i h1 h2 h3 h4 => by
              have hh : ds = nameB i := h4
              have := HBB.out.2 (by rw [hh]; exact name_prefix h3)
              simp_all
            refine ⟨by rw [← HK.out, HN]; rfl, ?_⟩
            (repeat (first | exact Below.refl _ _ | refine Below.alloc ?_ (by simp) _ | refine Below.setCell ?_ (by simp) _))
        · have HN := Lib.hid (kindD_none hn hs)
          have Hs := Lib.hid hs
          have Hn := Lib.hid hn
          clear hs hn
          go_enter Tryz.func93, Tryz.ntmps93
          go_wp2_with (first
            | (go_at_call 10; exfalso; exact Hn.out ⟨(by assumption : dk = 5), toEmpt (by assumption), (by assumption : de = 0), (by assumption : dl = [])⟩)
            | (go_at_call 113; exfalso; exact Hs.out ⟨(by assumption : dk = 20), (by assumption : dm = 0), (by assumption : de = 0), (by assumption : dl = [])⟩))
          all_goals
            go_ret2
            refine ⟨by rw [← HK.out, HN.out]; rfl, ?_⟩
            (repeat (first | exact Below.refl _ _ | refine Below.alloc ?_ (by simp) _ | refine Below.setCell ?_ (by simp) _))
  · have hans : kindOf (.mk k m s e l) = none := by
      exact if_neg hd
    rw [hans]
    have HD := Lib.hid hd
    clear hd hl
    go_enter Tryz.func93, Tryz.ntmps93
    go_wp2
    all_goals first
      | (go_ret2; exact ⟨rfl, (Below.refl _ _).alloc (Nat.le_refl _) _⟩)
      | (exfalso; exact HD.out ⟨(by assumption : k = 24), len_of_bne2 (by assumption)⟩)
theorem kind_any {N B : Nat} {d : VT} {v : Value} {w : World} {t : TypeId} (h : VAt B w N v d) (hB : B ≤ w.heap.size)
    (hsp : w.heap[0]? = some (.cells (Lib.asciiSpaceTab.map fun z => Value.int .u8 z).toArray t (0, 0))) :
    Calls Tryz.prog 93 #[v] w fun r w' => r = .returned (kindAns (kindOf d)) ∧ Below w.heap.size w w' := by
  obtain ⟨hf, lv, rfl, hl⟩ := h
  obtain ⟨k, m, s, e, l⟩ := d
  exact kind_raw hl hf hB hsp
end Go.Proofs.YtfoiaiblggapeaaGreatDoor.Va
