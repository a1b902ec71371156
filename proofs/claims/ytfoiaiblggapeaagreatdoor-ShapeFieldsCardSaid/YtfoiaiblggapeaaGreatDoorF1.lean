/-
  CE: shape.Fields and the reference's at every number, evaluated: what they hand out, and where it lies. No condition.
-/
import Derived.Test.YtfoiaiblggapeaaGreatDoorNm1
import Derived.Test.YtfoiaiblggapeaaGreatDoorNuField
import Derived.Test.YtfoiaiblggapeaaGreatDoorNuOwn
namespace Go.Proofs.YtfoiaiblggapeaaGreatDoor.Fd
open Go Go.RowKit Go.CE Go.Proofs.Nu Go.Proofs.YtfoiaiblggapeaaGreatDoor.Nm

/-- What can be written of an abstract slice: so many elements of so many cells. -/
noncomputable def capFit (h : H) (size : Nat) (v : Value) : Bool :=
  match v with
  | .slice (some ⟨i, k, none⟩) l c => match h.hp.get i with
    | some (.cells cs) => Nat.ble l (capLo c) && (Nat.ble 7 i && bif capEx c then Nat.ble (k + capLo c * size) cs.length else Nat.beq (capSize c) size)
    | _ => false
  | _ => false
noncomputable def sameId (a b : Value) : Bool :=
  match a with
  | .slice (some ⟨i, _, _⟩) _ _ => (match b with
    | .slice (some ⟨j, _, _⟩) _ _ => Nat.beq i j
    | _ => false)
  | _ => false
noncomputable def apartOk : List Value → Bool
  | [] => true
  | a :: r => r.all (fun b => !sameId a b) && apartOk r
noncomputable def kindsOk (h : H) (ks : List Int) (kv : Value) : Bool :=
  match ks with
  | [] => veqL (veq 8) [kv] [.slice none 0 0]
  | k :: r => capFit h 1 kv && (match rowA h 1 kv (k :: r).length with
    | some cs => veqL (veq 8) cs ((k :: r).map (Value.int .i64))
    | none => false)
noncomputable def rowsOkF (h : H) : List FT → List Value → Bool
  | [], [] => true
  | f :: fs, n :: t :: kv :: m :: a :: b :: c :: d :: e :: r => veqL (veq 8) [n, t, m, a, b, c, d, e] [.string ⟨f.name.toArray⟩, .int .i64 f.type, .bool f.must, .int .i64 f.dk, .int .u64 f.dn, .string ⟨f.dt.toArray⟩, .slice none 0 0, .int .i64 0] && (kindsOk h f.kinds kv && rowsOkF h fs r)
  | _, _ => false
noncomputable def kvsA : List Value → List Value
  | _ :: _ :: kv :: _ :: _ :: _ :: _ :: _ :: _ :: r => kv :: kvsA r
  | _ => []
noncomputable def listOk (h : H) (x : Value) (fs : List FT) : Bool :=
  capFit h 9 x && (match rowA h 9 x fs.length with
    | some cs => rowsOkF h fs cs && apartOk (x :: kvsA cs)
    | none => false)
noncomputable def fieldsOk (o : Option (List FT)) (v : Value) (h : H) : Bool :=
  match v with
  | .tuple a => match a.toList with
    | [x, y] => (match o with
      | none => veqL (veq 8) [x, y] [.slice none 0 0, .bool false]
      | some [] => veqL (veq 8) [x, y] [.slice none 0 0, .bool true]
      | some (f :: fs) => veqL (veq 8) [y] [.bool true] && listOk h x (f :: fs))
    | _ => false
  | _ => false

/-- A row that is somebody's own: its cells, and what can be written of it. -/
def RowC (lo hi : Nat) (w : World) (sz : Nat) (v : Value) (n : Nat) (cs : List Value) : Prop :=
  ∃ b off c, v = .slice (some ⟨b, off, none⟩) n c ∧ lo ≤ b ∧ b < hi ∧ hi ≤ w.heap.size ∧ n ≤ c ∧ w.there b off (c * sz) ∧ w.rangeAt b off cs
def KsOwn (lo hi : Nat) (w : World) (kv : Value) (ks : List Int) : Prop := (ks = [] ∧ kv = .slice none 0 0) ∨ (ks ≠ [] ∧ RowC lo hi w 1 kv ks.length (ks.map (Value.int .i64)))
def fcell (f : FT) (kv : Value) : List Value := [.string ⟨f.name.toArray⟩, .int .i64 f.type, kv, .bool f.must, .int .i64 f.dk, .int .u64 f.dn, .string ⟨f.dt.toArray⟩, .slice none 0 0, .int .i64 0]
def fcells : List FT → List Value → List Value
  | f :: fs, kv :: kvs => fcell f kv ++ fcells fs kvs
  | _, _ => []
def ApartB (vs : List Value) : Prop := vs.Pairwise fun a b => ∀ x, a.ownBlock = some x → b.ownBlock ≠ some x
/-- A list of fields, all its rows somebody's own and apart. -/
def FsOwn (lo hi : Nat) (w : World) (v : Value) (fs : List FT) : Prop :=
  (fs = [] ∧ v = .slice none 0 0) ∨ (fs ≠ [] ∧ ∃ kvs : List Value, kvs.length = fs.length ∧ RowC lo hi w 9 v fs.length (fcells fs kvs) ∧
    (∀ (i : Nat) (f : FT) (kv : Value), fs[i]? = some f → kvs[i]? = some kv → KsOwn lo hi w kv f.kinds) ∧ ApartB (v :: kvs))

section
variable {h : H} {ρ : CE.Ren} {w : World} {lo : Nat}
theorem row_seen (hr : HR 7 h ρ w) (hnew : ∀ i, 7 ≤ i → h.hp.get i ≠ none → lo ≤ (ρ i).1) {size n : Nat} {v v' : Value} {cs : List Value} (hf : capFit h size v = true) (hv : VR h.nx ρ v v') (hc : rowA h size v n = some cs) :
    ∃ cs', L2 (VR h.nx ρ) cs cs' ∧ RowC lo w.heap.size w size v' n cs' := by
  obtain ⟨i, k, c, b, off, c', rfl, hne, rfl, rfl, rfl, hcap, hlt, hlen, hcell⟩ := rowA_at hr hv hc
  let cs' : List Value := (List.range cs.length).map fun j => (w.cell? ⟨(ρ i).1, (ρ i).2.1 + k + j, none⟩).getD .nilFunc
  have hget : ∀ j x, cs[j]? = some x → ∃ y, cs'[j]? = some y ∧ w.cell? ⟨(ρ i).1, (ρ i).2.1 + k + j, none⟩ = some y ∧ VR h.nx ρ x y := by
    intro j x hx
    obtain ⟨y, h1, h2⟩ := hcell j x hx
    refine ⟨y, ?_, h1, h2⟩
    have hj := (List.getElem?_eq_some_iff.1 hx).1
    show ((List.range cs.length).map _)[j]? = _
    rw [List.getElem?_map, List.getElem?_range hj, Option.map_some, h1]; rfl
  have hl : cs'.length = cs.length := by simp [cs']
  unfold capFit at hf
  simp only at hf
  split at hf
  · rename_i ds hds
    simp only [Bool.and_eq_true] at hf
    obtain ⟨f1, f2, f3⟩ := hf
    obtain ⟨_, ob, hob, hobj⟩ := hr.obj i _ hds
    cases hobj with
    | cells _ cc e fz hz hlen' hcv hfz =>
      have h1 : n ≤ c' ∧ (ρ i).2.1 + k + c' * size ≤ cc.size := by
        have f1 := Nat.le_of_ble_eq_true f1
        unfold capOk at hcap
        by_cases he : capEx c = true
        · rw [if_pos he] at hcap
          rw [he, cond_true] at f3
          have f3 := Nat.le_of_ble_eq_true f3
          rw [hcap]
          exact ⟨f1, by omega⟩
        · rw [if_neg he] at hcap
          rw [Bool.not_eq_true] at he
          rw [he, cond_false] at f3
          have f3 := Nat.eq_of_beq_eq_true f3
          rw [f3] at hcap
          exact ⟨by omega, by rw [hz]; exact hcap.2⟩
      refine ⟨cs', ⟨hl.symm, fun j x y hx hy => ?_⟩, _, _, c', rfl, hnew i (Nat.le_of_ble_eq_true f2) hne, hlt, Nat.le_refl _, h1.1, fun j hj => ⟨?_, ?_⟩, fun j y hy => ?_⟩
      · obtain ⟨y', a, _, b⟩ := hget j x hx
        rw [a] at hy
        cases hy
        exact b
      · unfold World.cell?
        rw [hob]
        simp
        omega
      · unfold World.frozen?
        rw [hob]
        simp
        omega
      · have hj := (List.getElem?_eq_some_iff.1 hy).1
        obtain ⟨y', a, b, _⟩ := hget j _ (List.getElem?_eq_getElem (by omega : j < cs.length))
        rw [a] at hy
        cases hy
        exact b
  · cases hf
theorem vr_str {n : Nat} {s : ByteArray} {y : Value} (h : VR n ρ (.string s) y) : y = .string s := by cases h; rfl
theorem vr_int {n : Nat} {k : IntKind} {m : Int} {y : Value} (h : VR n ρ (.int k m) y) : y = .int k m := by cases h; rfl
theorem vr_bool {n : Nat} {m : Bool} {y : Value} (h : VR n ρ (.bool m) y) : y = .bool m := by cases h; rfl
theorem vr_nil {n : Nat} {y : Value} (h : VR n ρ (.slice none 0 0) y) : y = .slice none 0 0 := by cases h; rfl
theorem vr_ints {n : Nat} : ∀ {ks : List Int} {cs' : List Value}, L2 (VR n ρ) (ks.map (Value.int .i64)) cs' → cs' = ks.map (Value.int .i64)
  | [], cs', hl => hl.nil_left
  | k :: ks, cs', hl => by
    obtain ⟨y, t, rfl, h1, h2⟩ := L2.cons_left hl
    rw [vr_int h1, vr_ints h2]; rfl
theorem kinds_seen (hr : HR 7 h ρ w) (hnew : ∀ i, 7 ≤ i → h.hp.get i ≠ none → lo ≤ (ρ i).1) {ks : List Int} {v v' : Value} (hk : kindsOk h ks v = true) (hv : VR h.nx ρ v v') : KsOwn lo w.heap.size w v' ks := by
  cases ks with
  | nil =>
    have := veqL8 _ _ hk
    cases this
    exact .inl ⟨rfl, vr_nil hv⟩
  | cons k r =>
    unfold kindsOk at hk
    simp only [Bool.and_eq_true] at hk
    obtain ⟨h1, h2⟩ := hk
    split at h2
    · rename_i cs hcs
      obtain ⟨cs', hl, hrow⟩ := row_seen hr hnew h1 hv hcs
      rw [veqL8 _ _ h2] at hl
      rw [vr_ints hl] at hrow
      exact .inr ⟨by simp, hrow⟩
    · cases h2
theorem rows_seen : ∀ (fs : List FT) (cs cs' : List Value), rowsOkF h fs cs = true → L2 (VR h.nx ρ) cs cs' → ∃ kc, kc.length = fs.length ∧ L2 (VR h.nx ρ) (kvsA cs) kc ∧ cs' = fcells fs kc ∧ ∀ (i : Nat) (f : FT) (a : Value), fs[i]? = some f → (kvsA cs)[i]? = some a → kindsOk h f.kinds a = true
  | [], [], cs', _, hl => ⟨[], rfl, ⟨rfl, fun i x y hx => by simp [kvsA] at hx⟩, hl.nil_left, fun i f a hf => by simp at hf⟩
  | [], _ :: _, _, hk, _ => by simp [rowsOkF] at hk
  | f :: fs, cs, cs', hk, hl => by
    match cs, hk, hl with
    | n :: t :: kv :: m :: a :: b :: c :: d :: e :: r, hk, hl =>
      simp only [rowsOkF, Bool.and_eq_true] at hk
      obtain ⟨h1, h2, h3⟩ := hk
      have e1 := veqL8 _ _ h1
      simp only [List.cons.injEq, and_true] at e1
      obtain ⟨rfl, rfl, rfl, rfl, rfl, rfl, rfl, rfl⟩ := e1
      obtain ⟨n', l1, rfl, g1, hl⟩ := L2.cons_left hl
      obtain ⟨t', l2, rfl, g2, hl⟩ := L2.cons_left hl
      obtain ⟨kv', l3, rfl, g3, hl⟩ := L2.cons_left hl
      obtain ⟨m', l4, rfl, g4, hl⟩ := L2.cons_left hl
      obtain ⟨a', l5, rfl, g5, hl⟩ := L2.cons_left hl
      obtain ⟨b', l6, rfl, g6, hl⟩ := L2.cons_left hl
      obtain ⟨c', l7, rfl, g7, hl⟩ := L2.cons_left hl
      obtain ⟨d', l8, rfl, g8, hl⟩ := L2.cons_left hl
      obtain ⟨e', l9, rfl, g9, hl⟩ := L2.cons_left hl
      obtain ⟨kc, k1, k2, k3, k4⟩ := rows_seen fs r l9 h3 hl
      refine ⟨kv' :: kc, by simp [k1], ⟨by simp [kvsA, k2.1], fun i x y hx hy => ?_⟩, ?_, fun i f' a hf ha => ?_⟩
      · cases i with
        | zero => simp [kvsA] at hx hy; subst hx; subst hy; exact g3
        | succ i => simp [kvsA] at hx hy; exact k2.2 i x y hx hy
      · rw [vr_str g1, vr_int g2, vr_bool g4, vr_int g5, vr_int g6, vr_str g7, vr_nil g8, vr_int g9, k3]; rfl
      · cases i with
        | zero => simp [kvsA] at hf ha; subst hf; subst ha; exact h2
        | succ i => simp [kvsA] at hf ha; exact k4 i f' a hf ha
    | [], hk, _ => simp [rowsOkF] at hk
    | [_], hk, _ => simp [rowsOkF] at hk
    | [_, _], hk, _ => simp [rowsOkF] at hk
    | [_, _, _], hk, _ => simp [rowsOkF] at hk
    | [_, _, _, _], hk, _ => simp [rowsOkF] at hk
    | [_, _, _, _, _], hk, _ => simp [rowsOkF] at hk
    | [_, _, _, _, _, _], hk, _ => simp [rowsOkF] at hk
    | [_, _, _, _, _, _, _], hk, _ => simp [rowsOkF] at hk
    | [_, _, _, _, _, _, _, _], hk, _ => simp [rowsOkF] at hk
theorem own_id {v v' : Value} {x : Nat} (hv : VR h.nx ρ v v') (hx : v'.ownBlock = some x) : ∃ i k l c, v = .slice (some ⟨i, k, none⟩) l c ∧ x = (ρ i).1 := by
  cases hv with
  | slice i k l c c' hin hcap => exact ⟨i, k, l, c, rfl, by simpa [Value.ownBlock] using hx.symm⟩
  | _ => simp [Value.ownBlock] at hx
theorem apart_seen (hr : HR 7 h ρ w) : ∀ (vs vs' : List Value), apartOk vs = true → L2 (VR h.nx ρ) vs vs' → (∀ v ∈ vs, ∀ i k l c, v = .slice (some ⟨i, k, none⟩) l c → h.hp.get i ≠ none) → ApartB vs'
  | [], vs', _, hl, _ => by rw [hl.nil_left]; exact List.Pairwise.nil
  | a :: r, vs', ha, hl, hlv => by
    obtain ⟨a', r', rfl, g1, g2⟩ := L2.cons_left hl
    simp only [apartOk, Bool.and_eq_true] at ha
    refine List.Pairwise.cons (fun b' hb' x hx hx' => ?_) (apart_seen hr r r' ha.2 g2 fun v hv => hlv v (List.mem_cons_of_mem _ hv))
    obtain ⟨j, hj⟩ := List.getElem?_of_mem hb'
    have hjl : j < r.length := by rw [g2.1]; exact (List.getElem?_eq_some_iff.1 hj).1
    have hb := g2.2 j _ _ (List.getElem?_eq_getElem hjl) hj
    obtain ⟨i, k, l, c, rfl, e1⟩ := own_id g1 hx
    obtain ⟨i', k', l', c', e, e2⟩ := own_id hb hx'
    have hmem : r[j] ∈ r := List.getElem_mem hjl
    have h1 := hlv _ List.mem_cons_self i k l c rfl
    have h2 := hlv _ (List.mem_cons_of_mem _ hmem) i' k' l' c' e
    have e3 := hr.inj i i' h1 h2 (e1.symm.trans e2)
    have := List.all_eq_true.1 ha.1 _ hmem
    rw [e, e3] at this
    simp [sameId] at this
theorem live_of_fit {size : Nat} {v : Value} (hf : capFit h size v = true) {i k l c : Nat} (e : v = .slice (some ⟨i, k, none⟩) l c) : h.hp.get i ≠ none := by
  subst e
  unfold capFit at hf
  simp only at hf
  split at hf
  · rename_i hh; rw [hh]; simp
  · cases hf
theorem list_seen (hr : HR 7 h ρ w) (hnew : ∀ i, 7 ≤ i → h.hp.get i ≠ none → lo ≤ (ρ i).1) {fs : List FT} (hne : fs ≠ []) {v v' : Value} (hk : listOk h v fs = true) (hv : VR h.nx ρ v v') : FsOwn lo w.heap.size w v' fs := by
  unfold listOk at hk
  simp only [Bool.and_eq_true] at hk
  obtain ⟨h1, h2⟩ := hk
  split at h2
  · rename_i cs hcs
    simp only [Bool.and_eq_true] at h2
    obtain ⟨h2, h3⟩ := h2
    obtain ⟨cs', hl, hrow⟩ := row_seen hr hnew h1 hv hcs
    obtain ⟨kc, k1, k2, rfl, k4⟩ := rows_seen fs cs cs' h2 hl
    refine .inr ⟨hne, kc, k1, hrow, fun i f kv hf hkv => ?_, ?_⟩
    · have hi : i < (kvsA cs).length := by rw [k2.1]; exact (List.getElem?_eq_some_iff.1 hkv).1
      exact kinds_seen hr hnew (k4 i f _ hf (List.getElem?_eq_getElem hi)) (k2.2 i _ _ (List.getElem?_eq_getElem hi) hkv)
    · refine apart_seen hr _ _ h3 ⟨by simp [k2.1], fun i x y hx hy => ?_⟩ fun u hu i k l c e => ?_
      · cases i with
        | zero => simp at hx hy; subst hx; subst hy; exact hv
        | succ i => simp at hx hy; exact k2.2 i x y hx hy
      · rcases List.mem_cons.1 hu with rfl | hu
        · exact live_of_fit h1 e
        · obtain ⟨j, hj⟩ := List.getElem?_of_mem hu
          have hjl := (List.getElem?_eq_some_iff.1 hj).1
          obtain ⟨f, hf⟩ : ∃ f, fs[j]? = some f := ⟨_, List.getElem?_eq_getElem (by rw [← k1, ← k2.1]; exact hjl)⟩
          have := k4 j f u hf hj
          subst e
          cases hks : f.kinds with
          | nil => rw [hks] at this; have := veqL8 _ _ this; simp at this
          | cons q r =>
            rw [hks] at this
            unfold kindsOk at this
            simp only [Bool.and_eq_true] at this
            exact live_of_fit this.1 rfl
  · cases h2
theorem fields_seen (hr : HR 7 h ρ w) (hnew : ∀ i, 7 ≤ i → h.hp.get i ≠ none → lo ≤ (ρ i).1) {o : Option (List FT)} {v v' : Value} (hk : fieldsOk o v h = true) (hv : VR h.nx ρ v v') :
    ∃ x, v' = .tuple #[x, .bool o.isSome] ∧ FsOwn lo w.heap.size w x (o.getD []) := by
  unfold fieldsOk at hk
  split at hk
  · rename_i a
    split at hk
    · rename_i x y hxy
      cases hv with
      | tuple _ a' ha hA =>
        have hl : L2 (VR h.nx ρ) [x, y] a'.toList := by rw [← hxy]; exact ⟨ha, hA⟩
        obtain ⟨x', l1, e1, g1, hl⟩ := L2.cons_left hl
        obtain ⟨y', l2, rfl, g2, hl⟩ := L2.cons_left hl
        have e2 := hl.nil_left
        subst e2
        have ea : a' = #[x', y'] := by apply Array.ext'; rw [e1]
        subst ea
        match o, hk with
        | none, hk =>
          have := veqL8 _ _ hk
          simp only [List.cons.injEq, and_true] at this
          obtain ⟨rfl, rfl⟩ := this
          exact ⟨x', by rw [vr_bool g2]; rfl, .inl ⟨rfl, vr_nil g1⟩⟩
        | some [], hk =>
          have := veqL8 _ _ hk
          simp only [List.cons.injEq, and_true] at this
          obtain ⟨rfl, rfl⟩ := this
          exact ⟨x', by rw [vr_bool g2]; rfl, .inl ⟨rfl, vr_nil g1⟩⟩
        | some (f :: fs), hk =>
          simp only [Bool.and_eq_true] at hk
          have := veqL8 _ _ hk.1
          simp only [List.cons.injEq, and_true] at this
          subst this
          exact ⟨x', by rw [vr_bool g2]; rfl, list_seen hr hnew (by simp) hk.2 g1⟩
    · cases hk
  · cases hk
end
/-- What a call of Fields leaves. -/
def FieldsAns (k : Int) (w : World) (r : Ending) (w' : World) : Prop := ∃ x, r = .returned (.tuple #[x, .bool (fieldsT k).isSome]) ∧ FsOwn w.heap.size w'.heap.size w' x ((fieldsT k).getD []) ∧ Below w.heap.size w w'
noncomputable def fieldsEv (f : FuncId) (k : Int) (o : Option (List FT)) : Bool := evSeen Tryz.prog 7 1000000 [] f [.int .i64 k] [] (fieldsOk o)
theorem fields_of {f : FuncId} {k : Int} (h : fieldsEv f k (fieldsT k) = true) (w : World) : Calls Tryz.prog f #[.int .i64 k] w (FieldsAns k w) := by
  refine (calls_seen mixed noCount (memo_none _ _) h (w := w) (lies_none _ _)).mono ?_
  rintro e w' ⟨v', rfl, ⟨v, h, ρ, hok, hv, hr, hnew⟩, hb⟩
  obtain ⟨x, rfl, hx⟩ := fields_seen hr hnew hok hv
  exact ⟨x, rfl, hx, hb⟩
theorem high (j : Nat) : fieldsT (Int.ofNat (j + 121)) = none := by
  show fieldsN (j + 121) = none
  have : ∀ e ∈ tab, Nat.beq e.1 (j + 121) = false := fun e he => by
    have hb : ∀ e ∈ tab, e.1 < 121 := by decide
    have := hb e he
    cases hh : Nat.beq e.1 (j + 121) with
    | false => rfl
    | true => have := Nat.eq_of_beq_eq_true hh; omega
  unfold fieldsN
  rw [List.find?_eq_none.2 (fun e he => by rw [this e he]; simp)]
  rfl
theorem all_of {f : FuncId} (h1 : ∀ j, fieldsEv f (Int.negSucc j) none = true) (h2 : ∀ j : Nat, fieldsEv f (Int.ofNat (j + 121)) none = true)
    (h3 : ((List.range 22).all fun k => fieldsEv f (Int.ofNat k) (fieldsN k)) = true) (h4 : ((List.range 30).all fun k => fieldsEv f (Int.ofNat (k + 22)) (fieldsN (k + 22))) = true) (h5 : ((List.range 69).all fun k => fieldsEv f (Int.ofNat (k + 52)) (fieldsN (k + 52))) = true) : ∀ k : Int, fieldsEv f k (fieldsT k) = true
  | .negSucc j => h1 j
  | .ofNat n => by
    by_cases a : n < 22
    · exact List.all_eq_true.1 h3 n (List.mem_range.2 a)
    · by_cases b : n < 52
      · have := List.all_eq_true.1 h4 (n - 22) (List.mem_range.2 (by omega))
        rwa [show n - 22 + 22 = n by omega] at this
      · by_cases c : n < 121
        · have := List.all_eq_true.1 h5 (n - 52) (List.mem_range.2 (by omega))
          rwa [show n - 52 + 52 = n by omega] at this
        · have := h2 (n - 121)
          have hh := high (n - 121)
          rw [show n - 121 + 121 = n by omega] at this hh
          rw [hh]; exact this
theorem f_below (j : Nat) : fieldsEv 8 (Int.negSucc j) none = true := by kernel_rfl
theorem f_above (j : Nat) : fieldsEv 8 (Int.ofNat (j + 121)) none = true := by kernel_rfl
theorem f_a : ((List.range 22).all fun k => fieldsEv 8 (Int.ofNat k) (fieldsN k)) = true := by kernel_rfl
theorem f_b : ((List.range 30).all fun k => fieldsEv 8 (Int.ofNat (k + 22)) (fieldsN (k + 22))) = true := by kernel_rfl
theorem f_c : ((List.range 69).all fun k => fieldsEv 8 (Int.ofNat (k + 52)) (fieldsN (k + 52))) = true := by kernel_rfl
theorem r_below (j : Nat) : fieldsEv 9 (Int.negSucc j) none = true := by kernel_rfl
theorem r_above (j : Nat) : fieldsEv 9 (Int.ofNat (j + 121)) none = true := by kernel_rfl
theorem r_a : ((List.range 22).all fun k => fieldsEv 9 (Int.ofNat k) (fieldsN k)) = true := by kernel_rfl
theorem r_b : ((List.range 30).all fun k => fieldsEv 9 (Int.ofNat (k + 22)) (fieldsN (k + 22))) = true := by kernel_rfl
theorem r_c : ((List.range 69).all fun k => fieldsEv 9 (Int.ofNat (k + 52)) (fieldsN (k + 52))) = true := by kernel_rfl
theorem fields_any (k : Int) (w : World) : Calls Tryz.prog 8 #[.int .i64 k] w (FieldsAns k w) := fields_of (all_of f_below f_above f_a f_b f_c k) w
theorem rfields_any (k : Int) (w : World) : Calls Tryz.prog 9 #[.int .i64 k] w (FieldsAns k w) := fields_of (all_of r_below r_above r_a r_b r_c k) w
end Go.Proofs.YtfoiaiblggapeaaGreatDoor.Fd
