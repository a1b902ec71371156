/-
  A configuration as an argument: what the row reads, opened. No condition.
-/
import Derived.Test.YtannnhopgdlapaaGreatDoorG9
import Derived.Deep.Slices
import Derived.Deep.Fields
import Derived.ChangeSame
import Derived.SizedLaws
import Derived.ProofKit
namespace Go.Proofs.YtannnhopgdlapaaGreatDoor.Uc
open Go Go.RowKit Go.ChangeShapes Go.WideShapes Go.Deep Go.Proofs.Nu

noncomputable def fieldsC : Array Field := match Tryz.prog.underlying 26 with | some (.struct fs) => fs | _ => #[]
theorem underC : Tryz.prog.underlying 26 = some (.struct fieldsC) := by kernel_rfl
theorem cellsC : Tryz.prog.cellsOf 26 = 13 := by kernel_rfl
theorem fieldsC_at : fieldsC.toList.map (fun f => (f.type, f.offset, Tryz.prog.cellsOf f.type)) = [(9, 0, 1), (9, 1, 1), (4, 2, 1), (4, 3, 1), (22, 4, 1), (3, 5, 1), (9, 6, 1), (24, 7, 2), (3, 9, 1), (3, 10, 1), (3, 11, 1), (3, 12, 1)] := by kernel_rfl
theorem typesC : fieldsC.toList.map (·.type) = [9, 9, 4, 4, 22, 3, 9, 24, 3, 3, 3, 3] := by kernel_rfl
theorem sizeC : fieldsC.size = 12 := by kernel_rfl
noncomputable def fieldsW : Array Field := match Tryz.prog.underlying 24 with | some (.struct fs) => fs | _ => #[]
theorem underW : Tryz.prog.underlying 24 = some (.struct fieldsW) := by kernel_rfl
theorem cellsW : Tryz.prog.cellsOf 24 = 2 := by kernel_rfl
theorem bytesW : Tryz.prog.bytesOf 24 = 32 := by kernel_rfl
theorem sizeW : fieldsW.size = 2 := by kernel_rfl
theorem fieldsW_at : fieldsW.toList.map (fun f => (f.type, f.offset, Tryz.prog.cellsOf f.type)) = [(9, 0, 1), (9, 1, 1)] := by kernel_rfl
theorem field_gen {fs : Array Field} {L : List (TypeId × Nat × Nat)} (h : fs.toList.map (fun f => (f.type, f.offset, Tryz.prog.cellsOf f.type)) = L) (j : Nat) (t o k : Nat) (hx : L[j]? = some (t, o, k)) : ∃ f : Field, fs[j]? = some f ∧ f.type = t ∧ f.offset = o ∧ Tryz.prog.cellsOf f.type = k := by
  rw [← h, List.getElem?_map] at hx
  rw [Array.getElem?_toList] at hx
  cases hf : fs[j]? with
  | none => rw [hf] at hx; cases hx
  | some f =>
    rw [hf] at hx
    simp only [Option.map_some, Option.some.injEq, Prod.mk.injEq] at hx
    exact ⟨f, rfl, hx.1, hx.2.1, hx.2.2⟩
theorem list_of {α : Type} {Q : Nat → α → Prop} : ∀ n : Nat, (∀ i, i < n → ∃ e, Q i e) → ∃ es : List α, es.length = n ∧ ∀ i e, es[i]? = some e → Q i e
  | 0, _ => ⟨[], rfl, fun i e h => by simp at h⟩
  | n + 1, h => by
    obtain ⟨es, hl, he⟩ := list_of n fun i hi => h i (by omega)
    obtain ⟨e, hq⟩ := h n (by omega)
    refine ⟨es ++ [e], by simp [hl], fun i x hx => ?_⟩
    rcases Nat.lt_or_ge i es.length with hi | hi
    · rw [List.getElem?_append_left hi] at hx
      exact he i x hx
    · rw [List.getElem?_append_right hi] at hx
      have : i - es.length = 0 := by
        have := (List.getElem?_eq_some_iff.1 hx).1
        simp at this
        omega
      rw [this] at hx
      simp at hx
      subst hx
      obtain rfl : i = n := by omega
      exact hq

section
variable {H : Type} {enc : TypeId × Value → H} {w : World} {base : Nat} {spare : Nat → Bool} {held : Bool}
set_option maxRecDepth 100000 in
theorem open_user {cs : List Value} {n : Nat} {x : DataW H × List MemPlace} (h : DataW.trod enc Tryz.prog w base spare held n 24 cs = some x) (hl : cs.length = 2) : ∃ u : Usr, cs = [.string u.1, .string u.2] := by
  obtain ⟨ys, n', hn', hy, hlen, hyl, hf⟩ := DataW.trod_struct underW h
  have one : ∀ (j t o k : Nat), ([(9, 0, 1), (9, 1, 1)] : List (TypeId × Nat × Nat))[j]? = some (t, o, k) → ∃ y, DataW.trod enc Tryz.prog w base spare held n' t ((cs.drop o).take k) = some y := by
    intro j t o k hx
    obtain ⟨f, hj, rfl, rfl, rfl⟩ := field_gen fieldsW_at j t o k hx
    have hjl : j < 2 := by rw [← sizeW]; exact (Array.getElem?_eq_some_iff.1 hj).1
    exact ⟨_, (hf j f hj).trans (List.getElem?_eq_getElem (by rw [hyl, sizeW]; omega))⟩
  match cs, hl with
  | [a0, a1], _ =>
    obtain ⟨y0, t0⟩ := one 0 9 0 1 rfl
    obtain ⟨y1, t1⟩ := one 1 9 1 1 rfl
    obtain ⟨s0, h0, _, _⟩ := DataW.trod_string Tryz.underlying9 (show DataW.trod enc Tryz.prog w base spare held n' 9 [a0] = some y0 from t0)
    obtain ⟨s1, h1, _, _⟩ := DataW.trod_string Tryz.underlying9 (show DataW.trod enc Tryz.prog w base spare held n' 9 [a1] = some y1 from t1)
    simp only [List.cons.injEq, and_true] at h0 h1
    subst h0 h1
    exact ⟨(s0, s1), rfl⟩

set_option maxRecDepth 100000 in
theorem open_users {fuel : Nat} {v : Value} {x : DataW H × List MemPlace} (h : DataW.trod enc Tryz.prog w base spare held fuel 22 [v] = some x) :
    ∃ us : List Usr, (us = [] ∧ v = .slice none 0 0) ∨ ∃ a c el sp, x.1 = .slice el sp ∧ el.length = us.length ∧ v = .slice (some a) us.length c ∧ us.length ≤ c ∧ c ≤ maxLen ∧ UAt w.heap.size w (some a) us := by
  rcases DataW.trod_slice Tryz.underlying22 h with ⟨he, _⟩ | ⟨a, len, cap, elems, rest, n, hn, he, hx, _, hlc, hcm, hlen, hel, _, _⟩
  · simp only [List.cons.injEq, and_true] at he
    exact ⟨[], .inl ⟨rfl, he⟩⟩
  · simp only [List.cons.injEq, and_true] at he
    rcases Nat.eq_zero_or_pos len with h0 | hpos
    · subst h0
      exact ⟨[], .inr ⟨a, cap, _, _, by rw [hx], by simp [hlen], he, Nat.zero_le _, hcm, .inl rfl⟩⟩
    · have key : ∀ i, i < len → ∃ u : Usr, ∀ j x, ([.string u.1, .string u.2] : List Value)[j]? = some x → w.cell? (a.add (i * 2 + j)) = some x := by
        intro i hi
        have h1 := hel i hi
        rw [List.getElem?_eq_getElem (by omega)] at h1
        obtain ⟨cs', hc, ht'⟩ := Option.bind_eq_some_iff.1 h1
        rw [cellsW] at hc
        obtain ⟨_, hcl, hat⟩ := World.cells?_some hc
        obtain ⟨u, rfl⟩ := open_user ht' hcl
        refine ⟨u, fun j x hx => ?_⟩
        have hj : j < 2 := by
          have := (List.getElem?_eq_some_iff.1 hx).1
          simpa using this
        rw [← Go.Deep.add_add, hat j hj]
        exact hx
      obtain ⟨us, hul, hus⟩ := list_of len key
      have hsp : a.spot = none := by
        obtain ⟨u, hu⟩ : ∃ u, us[0]? = some u := ⟨_, List.getElem?_eq_getElem (by omega)⟩
        have := hus 0 u hu 0 _ rfl
        simpa [Addr.add] using World.cell?_spot this
      obtain ⟨b, off, spot⟩ := a
      simp only at hsp
      subst hsp
      have hat : ∀ i u, us[i]? = some u → w.cell? ⟨b, off + i * 2, none⟩ = some (.string u.1) ∧ w.cell? ⟨b, off + i * 2 + 1, none⟩ = some (.string u.2) := fun i u hu => by
        have k := hus i u hu
        have k0 := k 0 _ rfl
        have k1 := k 1 _ rfl
        rw [Addr.add_lit] at k0 k1
        exact ⟨k0, by rw [Nat.add_assoc]; exact k1⟩
      refine ⟨us, .inr ⟨⟨b, off, none⟩, cap, _, _, by rw [hx], by simp [hlen, hul], by rw [hul]; exact he, by omega, hcm, .inr ⟨b, off, rfl, ?_, hat⟩⟩⟩
      obtain ⟨u, hu⟩ : ∃ u, us[0]? = some u := ⟨_, List.getElem?_eq_getElem (by omega)⟩
      exact lt_of_cell (hat 0 u hu).1

set_option maxRecDepth 100000 in
theorem open_cfg {cs : List Value} {n : Nat} {x : DataW H × List MemPlace} (h : DataW.trod enc Tryz.prog w base spare held n 26 cs = some x) (hl : cs.length = 13) :
    ∃ (id host : ByteArray) (server guarded : Bool) (uv : Value) (seed : Int) (mech un us : ByteArray) (mf cm idl win : Int) (n' : Nat) (y : DataW H × List MemPlace) (parts : List (DataW H)),
      cs = [.string id, .string host, .bool server, .bool guarded, uv, .int .i64 seed, .string mech, .string un, .string us, .int .i64 mf, .int .i64 cm, .int .i64 idl, .int .i64 win] ∧ DataW.trod enc Tryz.prog w base spare held n' 22 [uv] = some y ∧ x.1 = .agg parts ∧ parts[4]? = some y.1 := by
  obtain ⟨ys, n', hn', hy, hlen, hyl, hf⟩ := DataW.trod_struct underC h
  have one : ∀ (j t o k : Nat), ([(9, 0, 1), (9, 1, 1), (4, 2, 1), (4, 3, 1), (22, 4, 1), (3, 5, 1), (9, 6, 1), (24, 7, 2), (3, 9, 1), (3, 10, 1), (3, 11, 1), (3, 12, 1)] : List (TypeId × Nat × Nat))[j]? = some (t, o, k) → ∃ y, DataW.trod enc Tryz.prog w base spare held n' t ((cs.drop o).take k) = some y ∧ ys[j]? = some y := by
    intro j t o k hx
    obtain ⟨f, hj, rfl, rfl, rfl⟩ := field_gen fieldsC_at j t o k hx
    have hjl : j < 12 := by rw [← sizeC]; exact (Array.getElem?_eq_some_iff.1 hj).1
    have hys := List.getElem?_eq_getElem (l := ys) (i := j) (by rw [hyl, sizeC]; omega)
    exact ⟨_, (hf j f hj).trans hys, hys⟩
  match cs, hl with
  | [a0, a1, a2, a3, a4, a5, a6, a7, a8, a9, a10, a11, a12], _ =>
    obtain ⟨y0, t0, _⟩ := one 0 9 0 1 rfl
    obtain ⟨y1, t1, _⟩ := one 1 9 1 1 rfl
    obtain ⟨y2, t2, _⟩ := one 2 4 2 1 rfl
    obtain ⟨y3, t3, _⟩ := one 3 4 3 1 rfl
    obtain ⟨y4, t4, p4⟩ := one 4 22 4 1 rfl
    obtain ⟨y5, t5, _⟩ := one 5 3 5 1 rfl
    obtain ⟨y6, t6, _⟩ := one 6 9 6 1 rfl
    obtain ⟨y7, t7, _⟩ := one 7 24 7 2 rfl
    obtain ⟨y8, t8, _⟩ := one 8 3 9 1 rfl
    obtain ⟨y9, t9, _⟩ := one 9 3 10 1 rfl
    obtain ⟨y10, t10, _⟩ := one 10 3 11 1 rfl
    obtain ⟨y11, t11, _⟩ := one 11 3 12 1 rfl
    obtain ⟨s0, h0, _, _⟩ := DataW.trod_string Tryz.underlying9 (show DataW.trod enc Tryz.prog w base spare held n' 9 [a0] = some y0 from t0)
    obtain ⟨s1, h1, _, _⟩ := DataW.trod_string Tryz.underlying9 (show DataW.trod enc Tryz.prog w base spare held n' 9 [a1] = some y1 from t1)
    obtain ⟨b2, h2, _⟩ := DataW.trod_bool Tryz.underlying4 (show DataW.trod enc Tryz.prog w base spare held n' 4 [a2] = some y2 from t2)
    obtain ⟨b3, h3, _⟩ := DataW.trod_bool Tryz.underlying4 (show DataW.trod enc Tryz.prog w base spare held n' 4 [a3] = some y3 from t3)
    obtain ⟨i5, h5, _, _⟩ := DataW.trod_int Tryz.underlying3 (show DataW.trod enc Tryz.prog w base spare held n' 3 [a5] = some y5 from t5)
    obtain ⟨s6, h6, _, _⟩ := DataW.trod_string Tryz.underlying9 (show DataW.trod enc Tryz.prog w base spare held n' 9 [a6] = some y6 from t6)
    obtain ⟨u, hu⟩ := open_user (show DataW.trod enc Tryz.prog w base spare held n' 24 [a7, a8] = some y7 from t7) rfl
    obtain ⟨i8, h8, _, _⟩ := DataW.trod_int Tryz.underlying3 (show DataW.trod enc Tryz.prog w base spare held n' 3 [a9] = some y8 from t8)
    obtain ⟨i9, h9, _, _⟩ := DataW.trod_int Tryz.underlying3 (show DataW.trod enc Tryz.prog w base spare held n' 3 [a10] = some y9 from t9)
    obtain ⟨i10, h10, _, _⟩ := DataW.trod_int Tryz.underlying3 (show DataW.trod enc Tryz.prog w base spare held n' 3 [a11] = some y10 from t10)
    obtain ⟨i11, h11, _, _⟩ := DataW.trod_int Tryz.underlying3 (show DataW.trod enc Tryz.prog w base spare held n' 3 [a12] = some y11 from t11)
    simp only [List.cons.injEq, and_true] at h0 h1 h2 h3 h5 h6 hu h8 h9 h10 h11
    obtain ⟨hu1, hu2⟩ := hu
    subst h0 h1 h2 h3 h5 h6 hu1 hu2 h8 h9 h10 h11
    exact ⟨s0, s1, b2, b3, a4, i5, s6, u.1, u.2, i8, i9, i10, i11, n', y4, ys.map (·.1), rfl, t4, by rw [hy], by rw [List.getElem?_map, p4]; rfl⟩

theorem users_sized {ts : List TypeId} {ds parts el sp : List (DataW H)} (h : (DataW.weightsEach Tryz.prog ts ds).all (· ≤ reachBytes) = true) (ht : ts[0]? = some 26) (hd : ds[0]? = some (.agg parts)) (hp : parts[4]? = some (.slice el sp)) : el.length * 32 ≤ 140737488351232 := by
  have hm : (el.length + sp.length) * Tryz.prog.bytesOf 24 ∈ DataW.weightsEach Tryz.prog ts ds := by
    have h4 : (fieldsC.toList.map (·.type))[4]? = some 22 := by rw [typesC]; rfl
    have := DataW.weights_mem_each (P := Tryz.prog) h4 hp ((el.length + sp.length) * Tryz.prog.bytesOf 24) (by simp [DataW.weights, Tryz.underlying22])
    refine DataW.weights_mem_each ht hd _ ?_
    simp only [DataW.weights, underC]
    exact this
  have := List.all_eq_true.1 h _ hm
  rw [bytesW] at this
  have h2 := of_decide_eq_true this
  have h3 : reachBytes = 140737488351232 := by decide
  rw [h3] at h2
  omega
end

/-- The arguments read as they read, where nothing that lay has turned. -/
theorem below_trodAll {H : Type} {enc : TypeId × Value → H} {P : Program} (hl : laidOutB P = true) {W W' : World} (hb : Below W.heap.size W W') :
    ∀ {ts : List TypeId} {vs : List Value} {ds : List (DataW H)} {ps : List MemPlace}, (∀ t ∈ ts, P.readableRec t = true ∧ t < P.types.size) → DataW.TrodAll enc P W 0 (fun _ => true) true ts vs ds ps → (∀ x ∈ ps, x.block < W.heap.size) →
      DataW.TrodAll enc P W' 0 (fun b => decide (b < W.heap.size)) true ts vs ds ps
  | [], [], [], _, _, h, _ => h
  | [], [], _ :: _, _, _, h, _ => h.elim
  | [], _ :: _, _, _, _, h, _ => h.elim
  | _ :: _, [], _, _, _, h, _ => h.elim
  | _ :: _, _ :: _, [], _, _, h, _ => h.elim
  | t :: ts, v :: vs, d :: ds, ps, ht, ⟨p, q, h1, h2, e⟩, hlt => by
    subst e
    exact ⟨p, q, Below.trod hl (ht t (by simp)).1 (ht t (by simp)).2 h1 hb (fun x hx => hlt x (List.mem_append_left _ hx)), below_trodAll hl hb (fun x hx => ht x (List.mem_cons_of_mem _ hx)) h2 (fun x hx => hlt x (List.mem_append_right _ hx)), rfl⟩
end Go.Proofs.YtannnhopgdlapaaGreatDoor.Uc
