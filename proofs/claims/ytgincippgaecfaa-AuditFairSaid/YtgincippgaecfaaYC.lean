/-
  The law AuditFair: its walk. No condition but the sizes.
-/
import Derived.Test.YtgincippgaecfaaYB
import Derived.Test.YtgincippgaecfaaA1
import Derived.Deep.CutRange
import Derived.Deep.CutBlock
import Derived.Laws.OwnMore
namespace Go.Proofs.Ytgincippgaecfaa.Au
open Go Go.RowKit

theorem WS.start {B : Nat} {w0 w1 : World} (hb : Below B w0 w1) (hB : B ≤ w0.heap.size) : WS B w0 w1.heap.size (([] : List Item).length : Int) [] [] (.slice none 0 0) (.slice none 0 0) (w1.alloc (.cells #[.slice none 0 0, .slice none 0 0, .int .i64 0] 48)) := by
  have hs := hb.size
  refine ⟨hb.alloc (by omega) _, hB, by omega, ?_, World.ownsRow_nil _ _ _ _, World.ownsRow_nil _ _ _ _, fun g h => by cases h⟩
  show (w1.heap.push _)[w1.heap.size]? = _
  rw [Array.getElem?_push_size]; rfl
theorem WS.formH {B : Nat} {w0 W : World} {wb : Nat} {nx : Int} {all : List Item} {h : List Ent} {va vh : Value} (H : WS B w0 wb nx all h va vh W) : ∃ a cap, vh = .slice a h.length cap := by
  rcases H.hist.2 with ⟨h0, h1⟩ | ⟨g, cap, cur, e, _⟩
  · exact ⟨none, 0, by rw [h0, h1]⟩
  · exact ⟨_, _, e⟩
theorem WS.histAt {B : Nat} {w0 W : World} {wb : Nat} {nx : Int} {all : List Item} {h : List Ent} {va vh : Value} (H : WS B w0 wb nx all h va vh W) : HistAt W.heap.size W vh h := by
  rcases H.hist.2 with ⟨h0, h1⟩ | ⟨g, cap, cur, e, hb, hh, _⟩
  · exact .inl ⟨none, 0, h0, List.length_eq_zero_iff.1 h1⟩
  · have ho := H.hist
    rw [e] at ho
    refine .inr ⟨g, 0, cap, e, (Array.getElem?_eq_some_iff.1 hh).1, AllAt.of_cells fun j u hu => ?_⟩
    have hj := (List.getElem?_eq_some_iff.1 hu).1
    rw [cellsOf_length] at hj
    rw [Nat.zero_add, World.ownsRow.cellAt ho j hj]
    exact hu

theorem worldQ_at (w : World) : QsAt (w.heap.size + 1) (w.alloc (.cells #[.string ⟨#[113]⟩, .int .i64 0, .string ⟨#[100]⟩, .int .i64 0, .bool false, .string ⟨#[100]⟩, .int .i64 0, .string ⟨#[]⟩, .int .i64 0, .bool false] 27)) (.slice (some ⟨w.heap.size, 0, none⟩) 2 2) worldQ := by
  refine .inr ⟨w.heap.size, 0, 2, rfl, by omega, ?_⟩
  intro i c hc
  have k := cells_new w [Value.string ⟨#[113]⟩, .int .i64 0, .string ⟨#[100]⟩, .int .i64 0, .bool false, .string ⟨#[100]⟩, .int .i64 0, .string ⟨#[]⟩, .int .i64 0, .bool false] 27
  simp only [add_off, Nat.zero_add] at k ⊢
  match i, hc with
  | 0, hc =>
    cases hc
    exact ⟨k 0 _ rfl, k 1 _ rfl, k 2 _ rfl, k 3 _ rfl, k 4 _ rfl⟩
  | 1, hc =>
    cases hc
    exact ⟨k 5 _ rfl, k 6 _ rfl, k 7 _ rfl, k 8 _ rfl, k 9 _ rfl⟩

/-- A block that was just made is a row. -/
theorem own_new {B : Nat} (w : World) (n : Nat) (hB : B ≤ w.heap.size) (cs : List Value) (hl : cs.length = n * 6) (hn : n ≤ maxLen := by decide) : (w.alloc (.cells cs.toArray 55)).drew.ownsRow B 55 6 (.slice (some ⟨w.heap.size, 0, none⟩) n n) n cs := by
  refine ⟨hl, .inr ⟨w.heap.size, n, cs.toArray, rfl, hB, ?_, Nat.le_refl _, hn, by simpa using hl, List.take_of_length_le (by simp [hl])⟩⟩
  show (w.heap.push _)[w.heap.size]? = _
  rw [Array.getElem?_push_size]

theorem ints_new {B : Nat} (w : World) (l : List Int) (hn : l.length ≤ 1000) (hB : B ≤ w.heap.size := by omega) : Ints B (w.alloc (.cells (l.map (Value.int .i64)).toArray 3)) (.slice (some ⟨w.heap.size, 0, none⟩) l.length l.length) l := by
  refine ⟨by simp, .inr ⟨w.heap.size, l.length, (l.map (Value.int .i64)).toArray, rfl, hB, ?_, Nat.le_refl _, by unfold maxLen; omega, by simp, List.take_of_length_le (by simp)⟩⟩
  show (w.heap.push _)[w.heap.size]? = _
  rw [Array.getElem?_push_size]

theorem hist_of_own {w : World} {B n : Nat} {v : Value} {es : List Ent} (h : w.ownsRow B 55 6 v n (cellsOf es)) (hn : es.length = n) : HistAt w.heap.size w v es := by
  rcases h.2 with ⟨h0, h1⟩ | ⟨g, cap, cur, e, hb, hh, _⟩
  · exact .inl ⟨none, 0, h0, List.length_eq_zero_iff.1 (hn.trans h1)⟩
  · subst e
    obtain ⟨⟨hF, _⟩, _, _, _, hg⟩ := FromAt.of_own hn h
    refine .inr ⟨g, 0, cap, by rw [hn], hg, fun i e he => ?_⟩
    rw [Nat.zero_add]
    exact hF i e (Nat.zero_le _) he
theorem odds_nil {h : List Ent} : ∀ (i : Nat) (e : Ent) (v : Int), ([] : List Ent)[i]? = some e → ([] : List Int)[i]? = some v → Odd h e v := fun i e v he => by simp at he
theorem odds_cons {h : List Ent} {e : Ent} {v : Int} {os : List Ent} {ws : List Int} (h1 : Odd h e v) (h2 : ∀ (i : Nat) (e : Ent) (v : Int), os[i]? = some e → ws[i]? = some v → Odd h e v) : ∀ (i : Nat) (e' : Ent) (v' : Int), (e :: os)[i]? = some e' → (v :: ws)[i]? = some v' → Odd h e' v'
  | 0, e', v', he, hv => by
    simp at he hv
    subst he hv
    exact h1
  | i + 1, e', v', he, hv => h2 i e' v' (by simpa using he) (by simpa using hv)
theorem step_append_none {P : Program} {w : World} {ops : Array Oper} {o : Oper} {a : Act} {K : Act → World → Prop} {Q : Exit → Act → World → Prop} {E : Prop} (hgd : o.guard = none) (s x : Operand) (t : TypeId)
    (ho : o.op = .call { callee := .builtin .append, args := #[s, x], argTypes := #[t, t] }) (e : TypeId) (i : TypeInfo) (ht : P.underlying t = some (.slice e)) (hi : P.info? e = some i)
    (hs : a.eval s = .slice none 0 0) (hx : a.eval x = .slice none 0 0) (h : K (a.put o.dst (.slice none 0 0)) w) :
    if Region.wanted o (yielded ops a.tmps) = true then Oper.wp P o a w K Q else E := by
  have hw : Region.wanted o (yielded ops a.tmps) = true := by simp [Region.wanted, hgd]
  rw [if_pos hw]
  have hrun := run_append_owned_none (P := P) (w := w) 0 t o.type e i 1 ht hi (.slice none 0 0) 0 [] (World.ownsRow_nil _ _ _ _)
  unfold Oper.wp
  simp [execOp, ho, resolve, invoke, builtin, hs, hx, hrun, Result.andThen]
  exact h
theorem step_append_own {P : Program} {w : World} {ops : Array Oper} {o : Oper} {a : Act} {K : Act → World → Prop} {Q : Exit → Act → World → Prop} {E : Prop} (hgd : o.guard = none) (s x : Operand) (t : TypeId)
    (ho : o.op = .call { callee := .builtin .append, args := #[s, x], argTypes := #[t, t] })
    (base : Nat) (e : TypeId) (i : TypeInfo) (z : Value) (size bytes : Nat) (ht : P.underlying t = some (.slice e)) (hi : P.info? e = some i) (hz : i.zero = some z)
    (hsize : i.size = size) (hby : i.bytes = bytes) (hzs : z.cells.size = size) (hsz : 0 < size)
    (v : Value) (n : Nat) (xs : List Value) (hs : a.eval s = v) (hown : w.ownsRow base e size v n xs)
    (ad : Addr) (m c : Nat) (news : List Value) (hx : a.eval x = .slice (some ad) m c) (hl : news.length = m * size) (hnews : ∀ j u, news[j]? = some u → w.cell? (ad.add j) = some u) (h1 : ∀ u ∈ news, u.oneCell' = true)
    (h63 : n + m ≤ maxLen) (hbytes : (n + m) * bytes ≤ 140737488355328) (hbase : base ≤ w.heap.size)
    (h : ∀ v' w', w'.ownsRow base e size v' (n + m) (xs ++ news) → w.grownBy w' v.ownBlock → K (a.put o.dst v') w') :
    if Region.wanted o (yielded ops a.tmps) = true then Oper.wp P o a w K Q else E := by
  have hw : Region.wanted o (yielded ops a.tmps) = true := by simp [Region.wanted, hgd]
  rw [if_pos hw]
  exact wp_append_own w s x t ho base e i z size bytes ht hi hz hsize hby hzs hsz v n xs hs hown ad m c news hx hl hnews h1 h63 hbytes hbase fun v' w' h2 h3 _ => h v' w' h2 h3

set_option maxRecDepth 100000 in
set_option maxHeartbeats 16000000 in
theorem fair_any (a : Option Addr) (cap : Nat) (ts : List Trn) (W : World) (hT : TurnsAt W.heap.size W (.slice a ts.length cap) ts) (hq : ts.length * 32 ≤ 140737488351232) (hz : ∀ c ∈ ts, c.fine) :
    Calls Try.prog 7 #[.slice a ts.length cap] W fun e W' => e = .returned (.bool true) ∧ Below W.heap.size W W' := by
  have HT := Lib.hid hT
  have HZ := Lib.hid hz
  have htl : (ts.length : Int) ≤ 4398046510976 := by omega
  clear hT hz hq
  go_enter Try.func7, Try.ntmps7
  go_upto_region 5 with ((go_at_call 8; refine Aw.awake.mono ?_; rintro e w1 ⟨rfl, hb1⟩))
  have H0 := WS.start hb1 (Nat.le_refl _)
  obtain ⟨W2, hW2⟩ : ∃ W2, w1.alloc (.cells #[.slice none 0 0, .slice none 0 0, .int .i64 0] 48) = W2 := ⟨_, rfl⟩
  rw [hW2] at H0 ⊢
  have HS := Lib.hid H0
  obtain ⟨wb, hwb⟩ : ∃ wb, w1.heap.size = wb := ⟨_, rfl⟩
  rw [hwb] at HS ⊢
  clear H0 hW2
  go_upto_block 0 with (fail)
  go_cut [] from 24 (fun w => ∃ all h va vh, WS W.heap.size W wb (all.length : Int) all h va vh w ∧ Good all h)
  case first =>
    go_wp2
    go_loopw [5] (fun i w => ∃ (k : Nat) (all : List Item) (h : List Ent) (va vh : Value), i = .int .i64 k ∧ k ≤ ts.length ∧ WS W.heap.size W wb (all.length : Int) all h va vh w ∧ Good all h) (fun i _ => ts.length - (intOf i).toNat)
    case atStart => exact ⟨0, [], [], _, _, rfl, Nat.zero_le _, HS.out, Good.start⟩
    case round =>
      obtain ⟨k, all, h, va, vh, rfl, hk, hWS, hG⟩ := hrel
      obtain ⟨ah, caph, rfl⟩ := hWS.formH
      obtain ⟨_, c1, _⟩ := hWS.cells
      have hhl : (h.length : Int) ≤ 390 := by have := hG.most; omega
      have HG := Lib.hid hG
      have HW := Lib.hid hWS
      clear hG hWS HS
      by_cases hlt : k < ts.length
      · obtain ⟨c, hc⟩ : ∃ c, ts[k]? = some c := ⟨_, List.getElem?_eq_getElem hlt⟩
        obtain ⟨b, off, rfl, hbn, q0, q1, q2, q3⟩ := (HT.out.below HW.out.below).at_ hc
        have hlt2 : (k : Int) < (ts.length : Int) := by omega
        by_cases hgo : (h.length : Int) < 390
        · have hl9 : h.length < 390 := by omega
          have hdo := does_any _ _ _ _ _ _ _ _ HW.out (by omega) (by have := HG.out.len; omega) HG.out.cnt c (HZ.out c (List.mem_of_getElem? hc))
          clear hc
          go_wp2_with ((go_at_call 19; go_loud (refine hdo.mono ?_); clear hdo; rintro r w3 ⟨rfl, all', h', va', vh', hM, hW'⟩))
          exact ⟨⟨k + 1, all', h', va', vh', by go_num, by omega, hW', HG.out.move hl9 hM⟩, by simp [intOf]; omega⟩
        · clear hc
          go_wp2
          go_meet
          case rel => exact ⟨all, h, va, _, HW.out, HG.out⟩
      · obtain rfl : k = ts.length := by omega
        go_wp2
        go_meet
        case rel => exact ⟨all, h, va, _, HW.out, HG.out⟩
  case rest =>
    obtain ⟨all, h, va, vh, hWS, hG⟩ := hcut
    go_upto_region 10 with (fail)
    have hQ0 := worldQ_at wc
    have hW0 := hWS.later ((Below.refl _ wc).alloc (Nat.le_refl _) (.cells #[.string ⟨#[113]⟩, .int .i64 0, .string ⟨#[100]⟩, .int .i64 0, .bool false, .string ⟨#[100]⟩, .int .i64 0, .string ⟨#[]⟩, .int .i64 0, .bool false] 27))
    obtain ⟨W3, hW3⟩ : ∃ W3, wc.alloc (.cells #[.string ⟨#[113]⟩, .int .i64 0, .string ⟨#[100]⟩, .int .i64 0, .bool false, .string ⟨#[100]⟩, .int .i64 0, .string ⟨#[]⟩, .int .i64 0, .bool false] 27) = W3 := ⟨_, rfl⟩
    have hs3 : wc.heap.size + 1 = W3.heap.size := by rw [← hW3]; simp
    rw [hW3] at hW0 hQ0 ⊢
    rw [hs3] at hQ0
    obtain ⟨qb, hqb⟩ : ∃ qb, wc.heap.size = qb := ⟨_, rfl⟩
    rw [hqb] at hQ0 ⊢
    clear hW3 hWS
    obtain ⟨ah, caph, rfl⟩ := hW0.formH
    obtain ⟨_, c1, c2⟩ := hW0.cells
    have hj := pjudge_any W3.heap.size _ _ worldQ h W3 (by decide) hQ0 hW0.histAt (Nat.le_refl _) hG.fineQ worldQ_fine
    rw [hG.judge] at hj
    have hL := fun (W4 : World) (hb : Below W3.heap.size W3 W4) => left_any W3.heap.size _ h qQ W4 (hW0.histAt.below hb) hb.size (fun e he => (hG.ok e he).msg)
    have HG := Lib.hid hG
    have HW := Lib.hid hW0
    have HQ := Lib.hid hQ0
    have hhl : (h.length : Int) ≤ 390 := by have := hG.most; omega
    have hal : (all.length : Int) ≤ 390 := by have := hG.len; omega
    clear hG hW0 hQ0
    go_upto_block 2 with (first
      | (go_at_call 10; refine hj.mono ?_; clear hj; rintro r W4 ⟨rfl, hb4⟩; have hL4 : Calls Try.prog 13 #[.string ⟨#[113, 117, 101, 117, 101, 47, 113]⟩, .slice ah h.length caph] W4 (LeftAns W4 h qQ) := hL W4 hb4; have d1 := (hb4.cell (p := ⟨wb, 1, none⟩) HW.out.lt).trans c1; clear hL)
      | (go_at_call 13; go_loud (refine hL4.mono ?_); clear hL4; rintro r W5 ⟨vm, vy, mu, my, rfl, hmu, hmy, _, hb5, _, hlr⟩
         rw [if_pos (HG.out.inv.hist (by omega))] at hlr
         rw [HG.out.inv.hist (by omega)]
         have hmyl := HG.out.inv.may hlr.1
         have hmust : ∀ m ∈ mu, ∃ (i : Nat) (x : Item), all[i]? = some x ∧ m = (i : Int) + 1 ∧ x.number = m ∧ x.gone = false ∧ x.told = true ∧ x.holder = 0 := by
           rw [hlr.2]
           exact HG.out.inv.must hlr.1
         have hml : (mu.length : Int) ≤ 390 := by
           have h1 : mu.length ≤ my.length := by rw [hlr.2]; exact List.length_filter_le _ _
           omega
         obtain ⟨pm, cm, rfl⟩ := hmu.shape
         obtain ⟨py, cy, rfl⟩ := hmy.shape
         have hW5 := HW.out.later (hb4.trans (hb5.mono hb4.size))
         obtain ⟨p0, p1, p2⟩ := hW5.cells
         have HW5 := Lib.hid hW5
         have HMU := Lib.hid hmu
         have HMS := Lib.hid hmust
         clear hlr hmu hmy hmust hW5))
    go_wp2
    go_loopw [12] (fun i w => ∃ k : Nat, i = .int .i64 k ∧ k ≤ mu.length ∧ Below W5.heap.size W5 w) (fun i _ => mu.length - (intOf i).toNat)
    case atStart => exact ⟨0, rfl, Nat.zero_le _, Below.refl _ _⟩
    case round =>
      obtain ⟨k, rfl, hk, hbw⟩ := hrel
      by_cases hlt : k < mu.length
      · obtain ⟨m, hm⟩ : ∃ m, mu[k]? = some m := ⟨_, List.getElem?_eq_getElem hlt⟩
        obtain ⟨i, x, hx, hmi, hnum, hg, ht, hh⟩ := HMS.out m (List.mem_of_getElem? hm)
        have hil := (List.getElem?_eq_some_iff.1 hx).1
        rcases HMU.out.cases with ⟨_, h0⟩ | ⟨g, cap9, e9, _, hg9, hc9, _, hcm, _⟩
        · rw [h0] at hlt; simp at hlt
        simp only [Value.slice.injEq] at e9
        obtain ⟨rfl, _, rfl⟩ := e9
        have r0 := (hbw.cell (p := ⟨g, k, none⟩) hg9).trans (hcm k _ hm)
        have Hr := HW5.out.later hbw
        obtain ⟨c0, _, _⟩ := Hr.cells
        obtain ⟨ga, cap2, e2, hgw, hgl, hcap, hcell, hfr⟩ := Hr.itemAt hx
        subst e2
        obtain ⟨xn, xd, xc, xh, xq, xs, xt, xg⟩ := x
        simp only at hnum hg ht hh
        subst hmi hnum hg ht hh
        have z0 : wr.cell? ⟨ga, i * 8, none⟩ = some (.int .i64 ((i : Int) + 1)) := hcell 0 _ rfl
        have z1 : wr.cell? ⟨ga, i * 8 + 1, none⟩ = some (.bool xd) := hcell 1 _ rfl
        have z2 : wr.cell? ⟨ga, i * 8 + 2, none⟩ = some (.int .i64 xc) := hcell 2 _ rfl
        have z3 : wr.cell? ⟨ga, i * 8 + 3, none⟩ = some (.int .i64 0) := hcell 3 _ rfl
        have z4 : wr.cell? ⟨ga, i * 8 + 4, none⟩ = some (.string xq) := hcell 4 _ rfl
        have z5 : wr.cell? ⟨ga, i * 8 + 5, none⟩ = some (.int .i64 xs) := hcell 5 _ rfl
        have z6 : wr.cell? ⟨ga, i * 8 + 6, none⟩ = some (.bool true) := hcell 6 _ rfl
        have z7 : wr.cell? ⟨ga, i * 8 + 7, none⟩ = some (.bool false) := hcell 7 _ rfl
        have hlt2 : (k : Int) < (mu.length : Int) := by omega
        have hi2 : (i : Int) < (all.length : Int) := by omega
        have HBW := Lib.hid hbw
        clear hm hx hcm Hr hcell hfr hbw
        have hwi : IntKind.i64.wrap (i : Int) = (i : Int) := by rw [IntKind.wrap_i64]; omega
        go_upto_region 19 with (fail)
        go_region_held3 (fun w' => w'.cell? ⟨wb, 0, none⟩ = some (.slice (some ⟨ga, 0, none⟩) all.length cap2) ∧ w'.cell? ⟨g, k, none⟩ = some (.int .i64 ((i : Int) + 1)) ∧ w'.cell? ⟨ga, i * 8, none⟩ = some (.int .i64 ((i : Int) + 1)) ∧ w'.cell? ⟨ga, i * 8 + 1, none⟩ = some (.bool xd) ∧ w'.cell? ⟨ga, i * 8 + 2, none⟩ = some (.int .i64 xc) ∧ w'.cell? ⟨ga, i * 8 + 3, none⟩ = some (.int .i64 0) ∧ w'.cell? ⟨ga, i * 8 + 4, none⟩ = some (.string xq) ∧ w'.cell? ⟨ga, i * 8 + 5, none⟩ = some (.int .i64 xs) ∧ w'.cell? ⟨ga, i * 8 + 6, none⟩ = some (.bool true) ∧ w'.cell? ⟨ga, i * 8 + 7, none⟩ = some (.bool false)) (go_keep) (fail)
        go_upto_region 20 with (fail)
        have hb6 := HBW.out.trans ((((Below.refl _ wr).alloc (Nat.le_refl _) (.cells #[Value.int .i64 ((i : Int) + 1), .bool xd, .int .i64 xc, .int .i64 0, .string xq, .int .i64 xs, .bool true, .bool false] 53)).drew).mono HBW.out.size)
        have hg6 : g < wr.heap.size := Nat.lt_of_lt_of_le hg9 HBW.out.size
        have r6 := ((((Below.refl _ wr).alloc (Nat.le_refl _) (.cells #[Value.int .i64 ((i : Int) + 1), .bool xd, .int .i64 xc, .int .i64 0, .string xq, .int .i64 xs, .bool true, .bool false] 53)).drew).cell (p := ⟨g, k, none⟩) hg6).trans r0
        have bx := World.cell?_alloc_new wr #[Value.int .i64 ((i : Int) + 1), .bool xd, .int .i64 xc, .int .i64 0, .string xq, .int .i64 xs, .bool true, .bool false] 53
        have hs6 : wr.heap.size < (wr.alloc (.cells #[Value.int .i64 ((i : Int) + 1), .bool xd, .int .i64 xc, .int .i64 0, .string xq, .int .i64 xs, .bool true, .bool false] 53)).drew.heap.size := by simp
        obtain ⟨W6, hW6⟩ : ∃ W6, (wr.alloc (.cells #[Value.int .i64 ((i : Int) + 1), .bool xd, .int .i64 xc, .int .i64 0, .string xq, .int .i64 xs, .bool true, .bool false] 53)).drew = W6 := ⟨_, rfl⟩
        have b0 : W6.cell? ⟨wr.heap.size, 0, none⟩ = some (.int .i64 ((i : Int) + 1)) := by rw [← hW6]; exact bx 0
        have b3 : W6.cell? ⟨wr.heap.size, 3, none⟩ = some (.int .i64 0) := by rw [← hW6]; exact bx 3
        have b6 : W6.cell? ⟨wr.heap.size, 6, none⟩ = some (.bool true) := by rw [← hW6]; exact bx 6
        have b7 : W6.cell? ⟨wr.heap.size, 7, none⟩ = some (.bool false) := by rw [← hW6]; exact bx 7
        rw [hW6] at hb6 r6 hs6 ⊢
        obtain ⟨bb, hbb⟩ : ∃ bb, wr.heap.size = bb := ⟨_, rfl⟩
        rw [hbb] at b0 b3 b6 b7 ⊢
        have HB6 := Lib.hid hb6
        have S6 : W5.heap.size ≤ wr.heap.size := HBW.out.size
        clear bx hW6 hb6 z0 z1 z2 z3 z4 z5 z6 z7 c0 r0 p0 p1 p2 c1 c2 d1
        go_quiet (fail)
        go_wp2
        exact ⟨⟨k + 1, by go_num, by omega, below_drewN HB6.out _⟩, by simp [intOf]; omega⟩
      · obtain rfl : k = mu.length := by omega
        have Hr := HW5.out.later hbw
        obtain ⟨e0, e1, e2⟩ := Hr.cells
        have HR := Lib.hid Hr
        have HBW := Lib.hid hbw
        clear Hr hbw p0 p1 p2 c1 c2 d1 hlt HMU HMS
        go_upto_region 22 with (fail)
        go_region_held3 (fun w' => w'.cell? ⟨wb, 2, none⟩ = some (.int .i64 (all.length : Int))) (go_keep) (fail)
        go_upto_region 23 with (fail)
        have hwn : IntKind.i64.wrap ((all.length : Int) + 1) = (all.length : Int) + 1 := by rw [IntKind.wrap_i64]; omega
        rw [hwn]
        have hb7 := ((Below.refl _ wr).alloc (Nat.le_refl _) (.cells #[Value.int .i64 2, .int .i64 1, .string ⟨#[113, 117, 101, 117, 101, 47, 113]⟩, .int .i64 ((all.length : Int) + 1), .int .i64 0, .bool false, .int .i64 4, .int .i64 1, .string ⟨#[113, 117, 101, 117, 101, 47, 113]⟩, .int .i64 ((all.length : Int) + 1), .int .i64 0, .bool false, .int .i64 5, .int .i64 1, .string ⟨#[113, 117, 101, 117, 101, 47, 113]⟩, .int .i64 ((all.length : Int) + 1), .int .i64 0, .bool false] 55)).drew
        have hO7 := own_new (B := W5.heap.size) wr 3 HBW.out.size (cellsOf (firstOdds all.length)) rfl
        obtain ⟨W7, hW7⟩ : ∃ W7, (wr.alloc (.cells #[Value.int .i64 2, .int .i64 1, .string ⟨#[113, 117, 101, 117, 101, 47, 113]⟩, .int .i64 ((all.length : Int) + 1), .int .i64 0, .bool false, .int .i64 4, .int .i64 1, .string ⟨#[113, 117, 101, 117, 101, 47, 113]⟩, .int .i64 ((all.length : Int) + 1), .int .i64 0, .bool false, .int .i64 5, .int .i64 1, .string ⟨#[113, 117, 101, 117, 101, 47, 113]⟩, .int .i64 ((all.length : Int) + 1), .int .i64 0, .bool false] 55)).drew = W7 := ⟨_, rfl⟩
        replace hO7 : W7.ownsRow W5.heap.size 55 6 (.slice (some ⟨wr.heap.size, 0, none⟩) 3 3) 3 (cellsOf (firstOdds all.length)) := by rw [← hW7]; exact hO7
        rw [hW7] at hb7 ⊢
        have HO7 := Lib.hid hO7
        have HB7 := Lib.hid hb7
        clear hO7 hb7 hW7 e0 e1 e2
        go_upto_region 24 with (fail)
        have hb8 := (Below.refl _ W7).alloc (Nat.le_refl _) (.cells #[.int .i64 1, .int .i64 2, .int .i64 6] 3)
        have hI8 := ints_new (B := W5.heap.size) W7 [1, 2, 6] (by simp) (Nat.le_trans HBW.out.size HB7.out.size)
        obtain ⟨W8, hW8⟩ : ∃ W8, W7.alloc (.cells #[.int .i64 1, .int .i64 2, .int .i64 6] 3) = W8 := ⟨_, rfl⟩
        replace hI8 : Ints W5.heap.size W8 (.slice (some ⟨W7.heap.size, 0, none⟩) 3 3) [1, 2, 6] := by rw [← hW8]; exact hI8
        rw [hW8] at hb8 ⊢
        have hb78 := HB7.out.trans (hb8.mono HB7.out.size)
        have hS8 := HR.out.later hb78
        have hO8 := ownsRow_belowJ HO7.out hb8 fun g hg => (World.ownsRow.lt HO7.out g hg).2
        obtain ⟨f0, f1, f2⟩ := hS8.cells
        have hB8 := HBW.out.trans (hb78.mono HBW.out.size)
        have hs58 := hB8.size
        have HS8 := Lib.hid hS8
        have HO8 := Lib.hid hO8
        have HI8 := Lib.hid hI8
        have HB8 := Lib.hid hB8
        obtain ⟨g7, hg7⟩ : ∃ g7, wr.heap.size = g7 := ⟨_, rfl⟩
        obtain ⟨g8, hg8⟩ : ∃ g8, W7.heap.size = g8 := ⟨_, rfl⟩
        rw [hg7] at HO8 ⊢
        rw [hg8] at HI8 ⊢
        have hS7 : g7 < g8 := by rw [← hg7, ← hg8]; exact Nat.lt_of_lt_of_le (World.ownsRow.lt HO7.out _ rfl).2 (Nat.le_refl _)
        clear hS8 hO8 hI8 hB8 hb78 hb8 hW8 HR HB7 HO7 hg7 hg8 HBW
        go_upto_if 149 with (fail)
        go_cut [14, 15] from 24 (fun v14 v15 w => ∃ (os : List Ent) (ws : List Int) (c15 : Nat) (a15 : Option Addr) (c14 : Nat) (a14 : Option Addr), v14 = .slice a14 os.length c14 ∧ v15 = .slice a15 ws.length c15 ∧ HistAt w.heap.size w (.slice a14 os.length c14) os ∧ Ints W5.heap.size w (.slice a15 ws.length c15) ws ∧ os.length = ws.length ∧ os.length ≤ 6 ∧ (∀ (i : Nat) (e : Ent) (v : Int), os[i]? = some e → ws[i]? = some v → Odd h e v) ∧ Below W5.heap.size W5 w)
        case first =>
          by_cases hpos : 0 < all.length
          · obtain ⟨x, hx⟩ : ∃ x, all[0]? = some x := ⟨_, List.getElem?_eq_getElem hpos⟩
            have hpos2 : (0 : Int) < (all.length : Int) := by omega
            obtain ⟨o4, o5, o6⟩ := HG.out.odds2 hx
            obtain ⟨o1, o2, o3⟩ := HG.out.odds1
            obtain ⟨ga, cap2, e2, hgw, hgl, hcap, hcell, hfr⟩ := HS8.out.itemAt hx
            subst e2
            obtain ⟨xn, xd, xc, xh, xq, xs, xt, xg⟩ := x
            simp only [Nat.zero_mul, Nat.zero_add] at hcell
            have z0 : W8.cell? ⟨ga, 0, none⟩ = some (.int .i64 xn) := hcell 0 _ rfl
            have z1 : W8.cell? ⟨ga, 1, none⟩ = some (.bool xd) := hcell 1 _ rfl
            have z2 : W8.cell? ⟨ga, 2, none⟩ = some (.int .i64 xc) := hcell 2 _ rfl
            have z3 : W8.cell? ⟨ga, 3, none⟩ = some (.int .i64 xh) := hcell 3 _ rfl
            have z4 : W8.cell? ⟨ga, 4, none⟩ = some (.string xq) := hcell 4 _ rfl
            have z5 : W8.cell? ⟨ga, 5, none⟩ = some (.int .i64 xs) := hcell 5 _ rfl
            have z6 : W8.cell? ⟨ga, 6, none⟩ = some (.bool xt) := hcell 6 _ rfl
            have z7 : W8.cell? ⟨ga, 7, none⟩ = some (.bool xg) := hcell 7 _ rfl
            have O := Lib.hid (And.intro (And.intro o1 (And.intro o2 o3)) (And.intro o4 (And.intro o5 o6)))
            simp only at O
            clear hcell hfr hx o1 o2 o3 o4 o5 o6 f1 f2
            go_upto_region 26 with (fail)
            have bx := World.cell?_alloc_new W8 #[Value.int .i64 xn, .bool xd, .int .i64 xc, .int .i64 xh, .string xq, .int .i64 xs, .bool xt, .bool xg] 53
            have hb9 := (Below.refl _ W8).alloc (Nat.le_refl _) (.cells #[.int .i64 xn, .bool xd, .int .i64 xc, .int .i64 xh, .string xq, .int .i64 xs, .bool xt, .bool xg] 53)
            obtain ⟨W9, hW9⟩ : ∃ W9, W8.alloc (.cells #[.int .i64 xn, .bool xd, .int .i64 xc, .int .i64 xh, .string xq, .int .i64 xs, .bool xt, .bool xg] 53) = W9 := ⟨_, rfl⟩
            have b1 : W9.cell? ⟨W8.heap.size, 1, none⟩ = some (.bool xd) := by rw [← hW9]; exact bx 1
            rw [hW9] at hb9 ⊢
            obtain ⟨i0, hi, hz0, hz1, hz2⟩ := info55'
            obtain ⟨i3, hi3, hz30, hz31, hz32⟩ := info3y
            have hO9 := ownsRow_belowJ HO8.out hb9 fun g hg => (World.ownsRow.lt HO8.out g hg).2
            have hI9 := Ints.below hb9 HI8.out fun g hg => (World.ownsRow.lt HI8.out g hg).2
            have hB9 := HB8.out.trans (hb9.mono HB8.out.size)
            have hs9 := hB9.size
            clear z0 z1 z2 z3 z4 z5 z6 z7 bx hb9 hW9 f0
            have hl8 : g8 < W9.heap.size := (World.ownsRow.lt hI9 _ rfl).2
            go_upto_region 27 with (first
              | (at_builtin; go_loud (refine wpList_append_lies _ rfl (.tmp 156) (.tmp 167) _ rfl W5.heap.size 55 i0 _ 6 56 Try.underlying23 hi hz0 hz1 hz2 rfl (by decide) (.slice (some ⟨g7, 0, none⟩) 3 3) 3 (cellsOf (firstOdds all.length)) rfl (hO9.alloc _) ⟨W9.heap.size, 0, none⟩ 3 3 (cellsOf (moreOdds xd)) rfl rfl (cells_new W9 (cellsOf (moreOdds xd)) 55) (cellsOf_one _) (by decide) (by decide) (by decide) (by rw [World.size_alloc]; omega) (W9.heap.size + 1) (by rw [World.size_alloc]) ?_)
                 intro g14 c14 w10 hown10 hgrow10 hat10 hlt10
                 have hne10 : g14 ≠ g8 := by
                   simp [Value.ownBlock] at hat10
                   omega
                 rw [← cellsOf_append] at hown10
                 have hb10 := ((Below.refl W5.heap.size W9).alloc hs9 _).grown hgrow10 (by rw [World.size_alloc]; omega) fun k hk => (World.ownsRow.lt hO9 k hk).1
                 have hI10 : Ints W5.heap.size w10 (.slice (some ⟨g8, 0, none⟩) 3 3) [1, 2, 6] := ownsRow_kept (World.ownsRow.alloc hI9 _) hgrow10 fun r e hb => by simp [Value.ownBlock] at e hb; omega
                 clear hat10 hgrow10))
            have hs10 := hb10.size
            clear b1 hO9
            go_wp2_with (first
              | (at_builtin; go_loud (refine wpList_append_own _ rfl (.tmp 169) (.tmp 170) _ rfl W5.heap.size 3 i3 _ 1 8 Try.underlying33 hi3 hz30 hz31 hz32 rfl (by decide) (.slice (some ⟨g8, 0, none⟩) 3 3) 3 ([1, 2, 6].map (Value.int .i64)) rfl (World.ownsRow.alloc hI10 _) ⟨w10.heap.size, 0, none⟩ 3 3 ([3, 4, 5].map (Value.int .i64)) rfl rfl (cells_new w10 ([3, 4, 5].map (Value.int .i64)) 3) (by simp [Value.oneCell']) (by decide) (by decide) (by rw [World.size_alloc]; omega) ?_)
                 intro v15 w11 hown11 hgrow11 hnil11
                 have hb11 := ((Below.refl W5.heap.size w10).alloc (by omega) _).grown hgrow11 (by rw [World.size_alloc]; omega) fun k hk => (World.ownsRow.lt hI10 k hk).1
                 have hO11 := ownsRow_kept (hown10.alloc _) hgrow11 fun r e hb => by simp [Value.ownBlock] at e hb; omega
                 rw [← List.map_append] at hown11
                 clear hgrow11))
            go_meet
            case rel =>
              rcases Ints.cases (show Ints W5.heap.size w11 v15 [1, 2, 6, 3, 4, 5] from hown11) with ⟨_, h0⟩ | ⟨g15, c15, rfl, _⟩
              · cases h0
              · refine ⟨firstOdds all.length ++ moreOdds xd, [1, 2, 6, 3, 4, 5], c15, _, c14, _, rfl, rfl, hist_of_own hO11 rfl, hown11, rfl, by simp [firstOdds, moreOdds], odds_cons O.out.1.1 (odds_cons O.out.1.2.1 (odds_cons O.out.1.2.2 (odds_cons O.out.2.1 (odds_cons O.out.2.2.1 (odds_cons O.out.2.2.2 odds_nil))))), hB9.trans (hb10.trans (hb11))⟩
          · have hz : ¬ (0 : Int) < (all.length : Int) := by omega
            obtain ⟨o1, o2, o3⟩ := HG.out.odds1
            go_wp2
            go_meet
            case rel => exact ⟨firstOdds all.length, [1, 2, 6], 3, _, 3, _, rfl, rfl, hist_of_own HO8.out rfl, HI8.out, rfl, by simp [firstOdds], odds_cons o1 (odds_cons o2 (odds_cons o3 odds_nil)), HB8.out⟩
        case rest =>
          obtain ⟨os, ws, c15, a15, c14, a14, rfl, rfl, hO, hI, hll, hl6, hodd, hb9⟩ := hcut
          have hW9 := HW5.out.later hb9
          obtain ⟨_, d1, _⟩ := hW9.cells
          have hHQ := (HQ.out.below hb4).below (hb5.mono hb4.size)
          have HO := Lib.hid hO
          have HI := Lib.hid hI
          have HODD := Lib.hid hodd
          have HW9 := Lib.hid hW9
          have HQ9 := Lib.hid ((hHQ.below (hb9.mono (Nat.le_trans hb4.size hb5.size))))
          have hs9 : W3.heap.size ≤ wc.heap.size := Nat.le_trans hb4.size (Nat.le_trans hb5.size hb9.size)
          have holen : (os.length : Int) ≤ 6 := by omega
          have HLL := Lib.hid hll
          clear hll hodd hO hI hHQ HO8 HI8 HS8 HB8
          go_wp2
          go_loopw [17] (fun i w => ∃ k : Nat, i = .int .i64 k ∧ k ≤ os.length ∧ Below wc.heap.size wc w) (fun i _ => os.length - (intOf i).toNat)
          case atStart => exact ⟨0, rfl, Nat.zero_le _, Below.refl _ _⟩
          case round =>
            obtain ⟨k, rfl, hk, hbw⟩ := hrel
            by_cases hlt : k < os.length
            · obtain ⟨e, he⟩ : ∃ e, os[k]? = some e := ⟨_, List.getElem?_eq_getElem hlt⟩
              obtain ⟨v, hv⟩ : ∃ v, ws[k]? = some v := ⟨_, List.getElem?_eq_getElem (by have := HLL.out; omega)⟩
              have hod := HODD.out k e v he hv
              obtain ⟨bo, oo, rfl, hbo, hat⟩ := (HO.out.below hbw).at_ he
              obtain ⟨ek, ew, eq, em, ec, ed⟩ := e
              obtain ⟨x0, x1, x2, x3, x4, x5⟩ := hat
              simp only at x0 x1 x2 x3 x4 x5
              rcases Ints.cases HI.out with ⟨_, h0⟩ | ⟨g15, cc15, e15, _, hg15, hc15, _, hcw, _⟩
              · rw [h0] at hv; simp at hv
              simp only [Value.slice.injEq] at e15
              obtain ⟨rfl, _, rfl⟩ := e15
              have y0 := (hbw.cell (p := ⟨g15, k, none⟩) hg15).trans (hcw k v hv)
              have r1 := (hbw.cell (p := ⟨wb, 1, none⟩) HW9.out.lt).trans d1
              have hk1 : (k : Int) < (os.length : Int) := by omega
              have hk2 : (k : Int) < (ws.length : Int) := by have := HLL.out; omega
              have HBW := Lib.hid hbw
              have hws := hbw.size
              have hg15r : g15 < wr.heap.size := Nat.lt_of_lt_of_le hg15 hws
              obtain ⟨i0, hi, hz0, hz1, hz2⟩ := info55'
              have hWr := HW9.out.later hbw
              have hwbl := hWr.lt
              have hbol : bo < wr.heap.size := Nat.lt_of_lt_of_le hbo hws
              clear he hv hcw
              go_upto_region 31 with (fail)
              rcases hWr.hist.2 with ⟨hv0, hh0⟩ | ⟨gh, caph', cur, evh, hbh, hhh, hch, hcm, hcs, htk⟩
              · obtain rfl : h = [] := List.length_eq_zero_iff.1 hh0
                simp only [List.length_nil] at r1 hv0
                simp only [Value.slice.injEq] at hv0
                obtain ⟨rfl, _, rfl⟩ := hv0
                have hall : ∀ w' : World, Below wr.heap.size wr w' → Below wr.heap.size wr w' ∧ w'.cell? ⟨wb, 1, none⟩ = some (.slice none 0 0) ∧ w'.cell? ⟨bo, oo + k * 6, none⟩ = some (.int .i64 ek) ∧ w'.cell? ⟨bo, oo + k * 6 + 1, none⟩ = some (.int .i64 ew) ∧ w'.cell? ⟨bo, oo + k * 6 + 2, none⟩ = some (.string eq) ∧ w'.cell? ⟨bo, oo + k * 6 + 3, none⟩ = some (.int .i64 em) ∧ w'.cell? ⟨bo, oo + k * 6 + 4, none⟩ = some (.int .i64 ec) ∧ w'.cell? ⟨bo, oo + k * 6 + 5, none⟩ = some (.bool ed) := fun w' hb' =>
                  ⟨hb', (hb'.cell (p := ⟨wb, 1, none⟩) hwbl).trans r1, (hb'.cell (p := ⟨bo, oo + k * 6, none⟩) hbol).trans x0, (hb'.cell (p := ⟨bo, oo + k * 6 + 1, none⟩) hbol).trans x1, (hb'.cell (p := ⟨bo, oo + k * 6 + 2, none⟩) hbol).trans x2, (hb'.cell (p := ⟨bo, oo + k * 6 + 3, none⟩) hbol).trans x3, (hb'.cell (p := ⟨bo, oo + k * 6 + 4, none⟩) hbol).trans x4, (hb'.cell (p := ⟨bo, oo + k * 6 + 5, none⟩) hbol).trans x5⟩
                have HALL := Lib.hid hall
                clear hall
                have hsd : wr.heap.size ≤ wr.drew.heap.size := Nat.le_refl _
                have HBA : Below wr.heap.size wr (wr.alloc (.cells #[Value.int .i64 ek, .int .i64 ew, .string eq, .int .i64 em, .int .i64 ec, .bool ed] 55)).drew := ((Below.refl _ wr).alloc (Nat.le_refl _) _).drew
                have hcn := cells_new wr (cellsOf [⟨ek, ew, eq, em, ec, ed⟩]) 55
                go_region_held3 (fun w' => Below wr.heap.size wr w' ∧ w'.cell? ⟨wb, 1, none⟩ = some (.slice none 0 0) ∧ w'.cell? ⟨bo, oo + k * 6, none⟩ = some (.int .i64 ek) ∧ w'.cell? ⟨bo, oo + k * 6 + 1, none⟩ = some (.int .i64 ew) ∧ w'.cell? ⟨bo, oo + k * 6 + 2, none⟩ = some (.string eq) ∧ w'.cell? ⟨bo, oo + k * 6 + 3, none⟩ = some (.int .i64 em) ∧ w'.cell? ⟨bo, oo + k * 6 + 4, none⟩ = some (.int .i64 ec) ∧ w'.cell? ⟨bo, oo + k * 6 + 5, none⟩ = some (.bool ed))
                  (first
                    | exact HALL.out _ (Below.refl _ _).drew
                    | exact HALL.out _ ((Below.refl _ _).drew.alloc hsd _)
                    | exact HALL.out _ HBA
                    | exact HALL.out _ HB11)
                  (first
                    | (refine step_append_none (by rfl) (.const (.slice none 0 0)) (.tmp 181) 23 (by rfl) 55 i0 Try.underlying23 hi (by rfl) (by rfl) ?_)
                    | (refine step_append_lies _ (by rfl) _ _ _ (by rfl) wr.heap.size 55 i0 _ 6 56 Try.underlying23 hi hz0 hz1 hz2 rfl (by omega) (.slice none 0 0) 0 [] (by rfl) (World.ownsRow_nil _ _ _ _) ⟨wr.heap.size, 0, none⟩ 1 1 (cellsOf [⟨ek, ew, eq, em, ec, ed⟩]) (by rfl) (cellsOf_length _) hcn (cellsOf_one _) (by omega) (by decide) (by decide) HBA.size _ rfl ?_; intro g11 c11 w11 hown11 hgrow11 hat11 hlt11; have HB11 : Below wr.heap.size wr w11 := HBA.grown hgrow11 HBA.size (fun k hk => by cases hk))
                    | fail)
                all_goals
                  have hown : w11.ownsRow wr.heap.size 55 6 (.slice (some ⟨g11, 0, none⟩) 1 c11) 1 (cellsOf ([] ++ [⟨ek, ew, eq, em, ec, ed⟩])) := hown11
                  have hH := hist_of_own hown (by simp)
                  have hB11 := HBW.out.trans (HB11.mono HBW.out.size)
                  have hjj := pjudge_any w11.heap.size _ _ worldQ ([] ++ [⟨ek, ew, eq, em, ec, ed⟩]) w11 (by decide) ((HQ9.out.below (hB11.mono hs9)).mono (Nat.le_trans hs9 hB11.size)) hH (Nat.le_refl _) (fun e he => by
                    rcases List.mem_append.1 he with he | he
                    · exact HG.out.fineQ e he
                    · rw [List.mem_singleton.1 he]; exact hod.fine) worldQ_fine
                  rw [hod.ans] at hjj
                  have t1 := (hB11.cell (p := ⟨wb, 1, none⟩) HW9.out.lt).trans d1
                  have t2 := (HB11.cell (p := ⟨g15, k, none⟩) hg15r).trans y0
                  have hg15l : g15 < w11.heap.size := Nat.lt_of_lt_of_le hg15r HB11.size
                  have hwb11 : wb < w11.heap.size := Nat.lt_of_lt_of_le hwbl HB11.size
                  have HB := Lib.hid hB11
                  clear hown11 hgrow11 hown hH hB11 HB11
                  go_wp2_with ((go_at_call 10; go_loud (refine hjj.mono ?_); clear hjj; rintro r w12 ⟨rfl, hb12⟩; have s1 := (hb12.cell (p := ⟨wb, 1, none⟩) hwb11).trans t1; have s2 := (hb12.cell (p := ⟨g15, k, none⟩) hg15l).trans t2; have hb12' := HB.out.trans (hb12.mono HB.out.size)))
                  exact ⟨⟨k + 1, by go_num, by omega, hb12'⟩, by simp [intOf]; omega⟩
              · simp only [Value.slice.injEq] at evh
                obtain ⟨rfl, _, rfl⟩ := evh
                have hrow := hWr.hist
                have hghl : gh < wr.heap.size := (World.ownsRow.lt hrow _ rfl).2
                have hcel : ∀ W' : World, Below wr.heap.size wr W' → ∀ j u, (cellsOf h)[j]? = some u → W'.cell? ((⟨gh, 0, none⟩ : Addr).add j) = some u := fun W' hb' j u hu => by
                  have hj := (List.getElem?_eq_some_iff.1 hu).1
                  rw [cellsOf_length] at hj
                  rw [add_off, Nat.zero_add, hb'.cell (p := ⟨gh, j, none⟩) hghl, World.ownsRow.cellAt hrow j hj]
                  exact hu
                have HCEL := Lib.hid hcel
                clear hcel hrow hWr hhh htk hbw
                have hall : ∀ w' : World, Below wr.heap.size wr w' → Below wr.heap.size wr w' ∧ w'.cell? ⟨wb, 1, none⟩ = some (.slice (some ⟨gh, 0, none⟩) h.length caph) ∧ w'.cell? ⟨bo, oo + k * 6, none⟩ = some (.int .i64 ek) ∧ w'.cell? ⟨bo, oo + k * 6 + 1, none⟩ = some (.int .i64 ew) ∧ w'.cell? ⟨bo, oo + k * 6 + 2, none⟩ = some (.string eq) ∧ w'.cell? ⟨bo, oo + k * 6 + 3, none⟩ = some (.int .i64 em) ∧ w'.cell? ⟨bo, oo + k * 6 + 4, none⟩ = some (.int .i64 ec) ∧ w'.cell? ⟨bo, oo + k * 6 + 5, none⟩ = some (.bool ed) := fun w' hb' =>
                  ⟨hb', (hb'.cell (p := ⟨wb, 1, none⟩) hwbl).trans r1, (hb'.cell (p := ⟨bo, oo + k * 6, none⟩) hbol).trans x0, (hb'.cell (p := ⟨bo, oo + k * 6 + 1, none⟩) hbol).trans x1, (hb'.cell (p := ⟨bo, oo + k * 6 + 2, none⟩) hbol).trans x2, (hb'.cell (p := ⟨bo, oo + k * 6 + 3, none⟩) hbol).trans x3, (hb'.cell (p := ⟨bo, oo + k * 6 + 4, none⟩) hbol).trans x4, (hb'.cell (p := ⟨bo, oo + k * 6 + 5, none⟩) hbol).trans x5⟩
                have HALL := Lib.hid hall
                clear hall
                have hl1 : h.length + 1 ≤ maxLen := by unfold maxLen; omega
                have hl2 : (h.length + 1) * 56 ≤ 140737488355328 := by omega
                have hl3 : 0 + h.length ≤ maxLen := by omega
                have hl4 : (0 + h.length) * 56 ≤ 140737488355328 := by omega
                have hsd : wr.heap.size ≤ wr.drew.heap.size := Nat.le_refl _
                have HBA : Below wr.heap.size wr (wr.alloc (.cells #[Value.int .i64 ek, .int .i64 ew, .string eq, .int .i64 em, .int .i64 ec, .bool ed] 55)).drew := ((Below.refl _ wr).alloc (Nat.le_refl _) _).drew
                have hcn := cells_new wr (cellsOf [⟨ek, ew, eq, em, ec, ed⟩]) 55
                go_region_held3 (fun w' => Below wr.heap.size wr w' ∧ w'.cell? ⟨wb, 1, none⟩ = some (.slice (some ⟨gh, 0, none⟩) h.length caph) ∧ w'.cell? ⟨bo, oo + k * 6, none⟩ = some (.int .i64 ek) ∧ w'.cell? ⟨bo, oo + k * 6 + 1, none⟩ = some (.int .i64 ew) ∧ w'.cell? ⟨bo, oo + k * 6 + 2, none⟩ = some (.string eq) ∧ w'.cell? ⟨bo, oo + k * 6 + 3, none⟩ = some (.int .i64 em) ∧ w'.cell? ⟨bo, oo + k * 6 + 4, none⟩ = some (.int .i64 ec) ∧ w'.cell? ⟨bo, oo + k * 6 + 5, none⟩ = some (.bool ed))
                  (first
                    | exact HALL.out _ (Below.refl _ _).drew
                    | exact HALL.out _ ((Below.refl _ _).drew.alloc hsd _)
                    | exact HALL.out _ HBA
                    | exact HALL.out _ HB10
                    | exact HALL.out _ (HB10.alloc HB10.size _)
                    | exact HALL.out _ HB11)
                  (first
                    | (refine step_append_own (by rfl) _ _ _ (by rfl) wr.heap.size 55 i0 _ 6 56 Try.underlying23 hi hz0 hz1 hz2 rfl (by omega) (.slice none 0 0) 0 [] (by rfl) (World.ownsRow_nil _ _ _ _) ⟨gh, 0, none⟩ h.length caph (cellsOf h) (by rfl) (cellsOf_length h) (HCEL.out _ (Below.refl _ _).drew) (cellsOf_one _) hl3 hl4 hsd ?_; intro v10 w10 hown10 hgrow10; rw [Nat.zero_add, List.nil_append] at hown10; have HB10 : Below wr.heap.size wr w10 := (Below.refl _ _).drew.grown hgrow10 hsd (fun k hk => by cases hk))
                    | (refine step_append_own (by rfl) _ _ _ (by rfl) wr.heap.size 55 i0 _ 6 56 Try.underlying23 hi hz0 hz1 hz2 rfl (by omega) (.slice none 0 0) 0 [] (by rfl) (World.ownsRow_nil _ _ _ _) ⟨gh, 0, none⟩ h.length caph (cellsOf h) (by rfl) (cellsOf_length h) (HCEL.out _ HBA) (cellsOf_one _) hl3 hl4 HBA.size ?_; intro v10 w10 hown10 hgrow10; rw [Nat.zero_add, List.nil_append] at hown10; have HB10 : Below wr.heap.size wr w10 := HBA.grown hgrow10 HBA.size (fun k hk => by cases hk); have hcn10 : ∀ (j : Nat) (u : Value), (cellsOf [⟨ek, ew, eq, em, ec, ed⟩])[j]? = some u → w10.cell? ((⟨wr.heap.size, 0, none⟩ : Addr).add j) = some u := fun j u hu => (hgrow10.cell_far ((⟨wr.heap.size, 0, none⟩ : Addr).add j) (by rw [add_off]; simp) (by simp [Value.ownBlock])).trans (hcn j u hu))
                    | (refine step_append_lies _ (by rfl) _ _ _ (by rfl) wr.heap.size 55 i0 _ 6 56 Try.underlying23 hi hz0 hz1 hz2 rfl (by omega) v10 h.length (cellsOf h) (by rfl) hown10 ⟨wr.heap.size, 0, none⟩ 1 1 (cellsOf [⟨ek, ew, eq, em, ec, ed⟩]) (by rfl) (cellsOf_length _) hcn10 (cellsOf_one _) (by omega) hl1 hl2 HB10.size _ rfl ?_; intro g11 c11 w11 hown11 hgrow11 hat11 hlt11; have HB11 : Below wr.heap.size wr w11 := HB10.grown hgrow11 HB10.size (fun k hk => (World.ownsRow.lt hown10 k hk).1))
                    | (refine step_append_lies _ (by rfl) _ _ _ (by rfl) wr.heap.size 55 i0 _ 6 56 Try.underlying23 hi hz0 hz1 hz2 rfl (by omega) v10 h.length (cellsOf h) (by rfl) (World.ownsRow.alloc hown10 _) ⟨w10.heap.size, 0, none⟩ 1 1 (cellsOf [⟨ek, ew, eq, em, ec, ed⟩]) (by rfl) (cellsOf_length _) (cells_new w10 (cellsOf [⟨ek, ew, eq, em, ec, ed⟩]) 55) (cellsOf_one _) (by omega) hl1 hl2 (HB10.alloc HB10.size _).size _ rfl ?_; intro g11 c11 w11 hown11 hgrow11 hat11 hlt11; have HB11 : Below wr.heap.size wr w11 := (HB10.alloc HB10.size _).grown hgrow11 (HB10.alloc HB10.size _).size (fun k hk => (World.ownsRow.lt hown10 k hk).1)))
                all_goals
                  have hown : w11.ownsRow wr.heap.size 55 6 (.slice (some ⟨g11, 0, none⟩) (h.length + 1) c11) (h.length + 1) (cellsOf (h ++ [⟨ek, ew, eq, em, ec, ed⟩])) := by rw [cellsOf_append]; exact hown11
                  have hH := hist_of_own hown (by simp)
                  have hB11 := HBW.out.trans (HB11.mono HBW.out.size)
                  have hjj := pjudge_any w11.heap.size _ _ worldQ (h ++ [⟨ek, ew, eq, em, ec, ed⟩]) w11 (by decide) ((HQ9.out.below (hB11.mono hs9)).mono (Nat.le_trans hs9 hB11.size)) hH (Nat.le_refl _) (fun e he => by
                    rcases List.mem_append.1 he with he | he
                    · exact HG.out.fineQ e he
                    · rw [List.mem_singleton.1 he]; exact hod.fine) worldQ_fine
                  rw [hod.ans] at hjj
                  have t1 := (hB11.cell (p := ⟨wb, 1, none⟩) HW9.out.lt).trans d1
                  have t2 := (HB11.cell (p := ⟨g15, k, none⟩) hg15r).trans y0
                  have hg15l : g15 < w11.heap.size := Nat.lt_of_lt_of_le hg15r HB11.size
                  have hwb11 : wb < w11.heap.size := Nat.lt_of_lt_of_le hwbl HB11.size
                  have HB := Lib.hid hB11
                  clear hown11 hgrow11 hown hH hB11 HB11
                  go_wp2_with ((go_at_call 10; go_loud (refine hjj.mono ?_); clear hjj; rintro r w12 ⟨rfl, hb12⟩; have s1 := (hb12.cell (p := ⟨wb, 1, none⟩) hwb11).trans t1; have s2 := (hb12.cell (p := ⟨g15, k, none⟩) hg15l).trans t2; have hb12' := HB.out.trans (hb12.mono HB.out.size)))
                  exact ⟨⟨k + 1, by go_num, by omega, hb12'⟩, by simp [intOf]; omega⟩
            · obtain rfl : k = os.length := by omega
              have hfin := (HW9.out.later hbw).below
              clear hbw
              go_wp2
              go_ret
              exact ⟨rfl, hfin⟩

end Go.Proofs.Ytgincippgaecfaa.Au
