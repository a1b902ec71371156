/-
  live, evaluated; a value as the law's argument. Condition: the table strings.asciiSpace lies as the program's text lays it.
-/
import Derived.Test.YtfoiaiblggapeaaGreatDoorV5
namespace Go.Proofs.YtfoiaiblggapeaaGreatDoor.Va
open Go Go.RowKit Go.ChangeShapes Go.WideShapes Go.Deep Go.CE Go.Proofs.Nu Go.Proofs.YtfoiaiblggapeaaGreatDoor.Nm

noncomputable def liveE : MemoE := { f := 7, args := [], glob := space, val := .bool true }
theorem live_says : liveE.says Tryz.prog 7 1000000 [] = true := by kernel_rfl
theorem live_any {w : World} {t : TypeId} (hsp : w.heap[0]? = some (.cells (Lib.asciiSpaceTab.map fun z => Value.int .u8 z).toArray t (0, 0))) :
    Calls Tryz.prog 7 #[] w fun e w' => e = .returned (.bool true) ∧ Below w.heap.size w w' :=
  calls_entry (memo_ok mixed noCount (memo_none _ _) live_says) (lies_tab (g := 0) (by decide) hsp)

section
variable {H : Type} {enc : TypeId × Value → H} {w : World} {base : Nat} {spare : Nat → Bool} {held : Bool}
set_option maxRecDepth 100000 in
theorem open_arg {r : Reach} {b0 : Nat} {v : Value} {d : DataW H} {p : List MemPlace} (hv : Value.okWide Tryz.prog w r b0 42 v) (h : DataW.Trod enc Tryz.prog w base spare held 42 v d p) : ∃ N t, VAt w.heap.size w N v t := by
  obtain ⟨cs, rfl, hsz⟩ := okWide_struct underV hv
  obtain ⟨fuel, hf⟩ := h
  have hl : cs.toList.length = 5 := by rw [Array.length_toList, hsz]; exact cellsV
  obtain ⟨k, m, s, lv, e, n', y, _, hcs, hfine, hlist⟩ := open_value hf hl
  obtain ⟨ts, hts⟩ := open_list hlist
  refine ⟨n' + 1, .mk k m s e ts, hfine ts, lv, ?_, hts⟩
  have : cs = #[.int .i64 k, .int .u64 m, .string s, lv, .int .i64 e] := Array.toList_inj.1 hcs
  rw [this]; rfl
end

/-- The arguments read as they read, where nothing that lay has turned. -/
theorem below_trodAll {H : Type} {enc : TypeId × Value → H} {P : Program} (hl : laidOutB P = true) {W W' : World} (hb : Below W.heap.size W W') :
    ∀ {ts : List TypeId} {vs : List Value} {ds : List (DataW H)} {ps : List MemPlace}, (∀ t ∈ ts, P.readableRec t = true ∧ t < P.types.size) → DataW.TrodAll enc P W 0 (fun _ => true) true ts vs ds ps → (∀ x ∈ ps, x.block < W.heap.size) →
      DataW.TrodAll enc P W' 0 (fun b => decide (b < W.heap.size)) true ts vs ds ps
  | [], [], [], _, _, h, _ => h
  | [], [], _ :: _, _, _, h, _ => h.elim
  | [], _ :: _, _, _, _, h, _ => h.elim
  | _ :: _, [], _, _, _, h, _ => h.elim
  | _ :: _, _ :: _, [], _, _, h, _ => h.elim
  | t :: ts, v :: vs, d :: ds, ps, ht, ⟨p, q, h1, h2, e⟩, hlt => by
    subst e
    exact ⟨p, q, Below.trod hl (ht t (by simp)).1 (ht t (by simp)).2 h1 hb (fun x hx => hlt x (List.mem_append_left _ hx)), below_trodAll hl hb (fun x hx => ht x (List.mem_cons_of_mem _ hx)) h2 (fun x hx => hlt x (List.mem_append_right _ hx)), rfl⟩
theorem laidOut : laidOutB Tryz.prog = true := by kernel_rfl
end Go.Proofs.YtfoiaiblggapeaaGreatDoor.Va
