/-
  An append of one number to a slice that the call owns: it stays in its row, or goes to a new block and the old row is left alone. No condition but the bounds.
-/
import Derived.Test.YtgincippgaecfaaL3
import Derived.Maps.AppendAt
namespace Go.Proofs.Ytgincippgaecfaa.Au
open Go Go.RowKit

theorem run_append_two (w : World) (base ty : Nat) (i : TypeInfo) (hi : Try.prog.info? 3 = some i) (hz : i.zero = some (.int .i64 0)) (hsize : i.size = 1) (hby : i.bytes = 8)
    (v : Value) (n : Nat) (xs : List Value) (hown : w.ownsRow base 3 1 v n xs) (a : Addr) (x : Int) (hnews : w.cell? a = some (.int .i64 x)) (h63 : n + 1 ≤ maxLen) (hbytes : (n + 1) * 8 ≤ 140737488355328) (hbase : base ≤ w.heap.size) :
    ∃ v' w', (Builtin.append_ #[33, 33] ty #[v, .slice (some a) 1 1]).run Try.prog w = .ok v' w' ∧ w'.ownsRow base 3 1 v' (n + 1) (xs ++ [.int .i64 x]) ∧
      ((v'.ownBlock = v.ownBlock ∧ w.grownBy w' v.ownBlock) ∨ (v'.ownBlock = some w.heap.size ∧ w.grownBy w' none)) := by
  have hn : ∀ j u, [Value.int .i64 x][j]? = some u → w.cell? (a.add j) = some u := fun j u hj => by
    match j, hj with
    | 0, hj => simp at hj; subst hj; simpa [Addr.add] using hnews
  obtain ⟨v', w', hr, h1, h2, h3, h4⟩ := run_append_own_at (P := Try.prog) w base 33 ty 3 i (.int .i64 0) 1 8 Try.underlying33 hi hz hsize hby rfl (by decide) v n xs hown a 1 1 [.int .i64 x] rfl hn (by simp [Value.oneCell']) h63 hbytes hbase
  refine ⟨v', w', hr, h1, ?_⟩
  have fresh : ∀ o : Obj, w.grownBy (w.drew.alloc o) none := fun o => ⟨rfl, rfl, rfl, by simp, fun k hk _ => Below.heap_alloc w.drew o k hk⟩
  rcases hown.2 with ⟨rfl, rfl⟩ | ⟨g, cap, cur, rfl, hbg, hg, hnc, hcm, hcs, htake⟩
  · -- there was none: a new block
    have hx : xs = [] := List.eq_nil_of_length_eq_zero (by simpa using hown.1)
    subst hx
    have hr2 := run_append_nil (P := Try.prog) w 33 ty 3 i (.int .i64 0) Try.underlying33 hi hz a 1 1 [.int .i64 x] (by simp [hsize]) hn (by omega) (by omega) (by omega)
    rw [hr] at hr2
    cases hr2
    exact .inr ⟨rfl, fresh _⟩
  · by_cases hroom : n + 1 ≤ cap
    · have hfit : n * i.size + [Value.int .i64 x].length ≤ cur.size := by rw [hsize, hcs]; simp; omega
      have hr2 := run_append_room (P := Try.prog) w 33 ty 3 i Try.underlying33 hi g n cap cur hg a 1 1 [.int .i64 x] (by simp [hsize]) hn (by simp [Value.oneCell']) hroom hfit
      rw [hr] at hr2
      cases hr2
      exact .inl ⟨rfl, h2⟩
    · have holds : ∀ j u, xs[j]? = some u → w.cell? ((⟨g, 0, none⟩ : Addr).add j) = some u := hown.cells (g := g) rfl
      have hr2 := run_append_grow (P := Try.prog) w 33 ty 3 i (.int .i64 0) Try.underlying33 hi hz ⟨g, 0, none⟩ n cap xs (by rw [hsize]; exact hown.1) holds a 1 1 [.int .i64 x] (by simp [hsize]) hn (by unfold maxLen at h63; omega) (by omega) (growslice_fits (by omega) (by rw [hby]; exact hbytes))
      rw [hr] at hr2
      cases hr2
      exact .inr ⟨rfl, fresh _⟩

theorem wpList_append_two (w : World) {ops : Array Oper} {rest : List Oper} {o : Oper} {a : Act} {Q : Exit → Act → World → Prop} (hgd : o.guard = none) (s x : Operand)
    (ho : o.op = .call { callee := .builtin .append, args := #[s, x], argTypes := #[33, 33] }) (base : Nat) (i : TypeInfo) (hi : Try.prog.info? 3 = some i) (hz : i.zero = some (.int .i64 0)) (hsize : i.size = 1) (hby : i.bytes = 8)
    (v : Value) (n : Nat) (xs : List Value) (hs : a.eval s = v) (hown : w.ownsRow base 3 1 v n xs) (ad : Addr) (y : Int) (hx : a.eval x = .slice (some ad) 1 1) (hnews : w.cell? ad = some (.int .i64 y))
    (h63 : n + 1 ≤ maxLen) (hbytes : (n + 1) * 8 ≤ 140737488355328) (hbase : base ≤ w.heap.size)
    (h : ∀ v' w', w'.ownsRow base 3 1 v' (n + 1) (xs ++ [.int .i64 y]) → ((v'.ownBlock = v.ownBlock ∧ w.grownBy w' v.ownBlock) ∨ (v'.ownBlock = some w.heap.size ∧ w.grownBy w' none)) → wpList Try.prog ops Q rest (a.put o.dst v') w') :
    wpList Try.prog ops Q (o :: rest) a w := by
  refine wpList_plain hgd fun K hK => ?_
  obtain ⟨v', w', hr, h2, h3⟩ := run_append_two w base o.type i hi hz hsize hby v n xs hown ad y hnews h63 hbytes hbase
  unfold Oper.wp execOp
  simp only [ho, resolve, invoke, builtin, Sem.run_bind, Sem.run_pure, Result.andThen_ok, List.map_toArray, List.map_cons, List.map_nil, hs, hx, hr]
  exact hK _ _ (h v' w' h2 h3)

end Go.Proofs.Ytgincippgaecfaa.Au
