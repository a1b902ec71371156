/-
  The texts CeF of this claim, one behind the other.
-/
import Derived.Test.YtfjlnfogbfmpiaaGreatDoorZPSA6
noncomputable section
namespace Go.CE
open Go Go.RowKit
variable {P:Program} {G:Nat}
def bitF (m i:Nat):Bool:=Nat.beq (Nat.mod (Nat.div m (Nat.pow 2 i)) 2) 1
theorem bitF_eq (m i:Nat):bitF m i=Nat.testBit m i:=by
 rw [Nat.testBit_eq_decide_div_mod_eq,Bool.eq_iff_iff,decide_eq_true_iff]
 show (Nat.beq (m/2^i%2) 1=true)↔_
 rw [Nat.beq_eq]
def maskP (M w i:Nat):Nat:=Nat.mod (Nat.div M (Nat.pow 2 (Nat.mul w i))) (Nat.pow 2 w)
def edgesP (M w i:Nat) (l:List Edge):Nat→Option Nat:=
 List.rec (motive:=fun _=>Nat→Option Nat) (fun s=>some s)
  (fun e _ ih s=>Bool.rec (motive:=fun _=>Option Nat) (ih s) (Bool.rec (motive:=fun _=>Option Nat) none (ih (Nat.lor (Nat.lor s (Nat.pow 2 e.on)) (maskP M w e.on))) (Nat.blt e.on i)) (Region.binds .any e)) l
def packP (w:Nat) (l:List Oper):Nat→Nat→Option Nat:=
 List.rec (motive:=fun _=>Nat→Nat→Option Nat) (fun _ M=>some M)
  (fun o _ ih i M=>Option.rec (motive:=fun _=>Option Nat) none (fun B=>ih (Nat.succ i) (Nat.add M (Nat.mul B (Nat.pow 2 (Nat.mul w i))))) (edgesP M w i o.after.toList 0)) l
theorem edgesP_eq {M w i:Nat} {acc:Array Nat} (hm:∀ k,k<i→maskP M w k=acc.getD k 0) (hw:i≤w) (hb:∀ k,k<i→acc.getD k 0<2^w):∀ (l:List Edge) (s:Nat),s<2^w→
 ((l.all (fun e=> !Region.binds .any e||Nat.blt e.on i))=true∧edgesP M w i l s=some (l.foldl (fun s e=>if Region.binds .any e then s|||2^e.on|||acc.getD e.on 0 else s) s)∧
   l.foldl (fun s e=>if Region.binds .any e then s|||2^e.on|||acc.getD e.on 0 else s) s<2^w)∨
 ((l.all (fun e=> !Region.binds .any e||Nat.blt e.on i))=false∧edgesP M w i l s=none)
 |[],s,hs=> .inl ⟨rfl,rfl,hs⟩
 |e::l,s,hs=>by
  have unf:edgesP M w i (e::l) s=Bool.rec (motive:=fun _=>Option Nat) (edgesP M w i l s) (Bool.rec (motive:=fun _=>Option Nat) none (edgesP M w i l (s|||2^e.on|||maskP M w e.on)) (Nat.blt e.on i)) (Region.binds .any e):=rfl
  rw [unf,List.all_cons,List.foldl_cons]
  cases hbi:Region.binds .any e with
  |false=>
   simp only [Bool.not_false,Bool.true_or,Bool.true_and,Bool.false_eq_true,if_false]
   exact edgesP_eq hm hw hb l s hs
  |true=>
   cases hlt:Nat.blt e.on i with
   |false=>exact .inr ⟨rfl,rfl⟩
   |true=>
    have hlt':e.on<i:=Nat.le_of_ble_eq_true hlt
    simp only [Bool.not_true,Bool.or_true,Bool.true_and,if_true]
    rw [hm _ hlt']
    exact edgesP_eq hm hw hb l _ (Nat.or_lt_two_pow (Nat.or_lt_two_pow hs (Nat.pow_lt_pow_right (by omega) (by omega))) (hb _ hlt'))
theorem maskP_zero {M w i k:Nat} (h:M<2^(w*i)) (hk:i≤k):maskP M w k=0:=by
 show M/2^(w*k)%2^w=0
 have:2^(w*i)≤2^(w*k):=Nat.pow_le_pow_right (by omega) (Nat.mul_le_mul_left w hk)
 rw [Nat.div_eq_of_lt (by omega),Nat.zero_mod]
theorem maskP_add {M w i B:Nat} (h:M<2^(w*i)) (hB:B<2^w):(∀ k,k<i→maskP (M+B*2^(w*i)) w k=maskP M w k)∧maskP (M+B*2^(w*i)) w i=B∧M+B*2^(w*i)<2^(w*(i+1)):=by
 refine ⟨fun k hk=>?_,?_,?_⟩
 ·show (M+B*2^(w*i))/2^(w*k)%2^w=M/2^(w*k)%2^w
  obtain ⟨d,rfl⟩:∃ d,i=k+(d+1):=⟨i-k-1,by omega⟩
  have e:B*2^(w*(k+(d+1)))=(B*2^(w*d)*2^w)*2^(w*k):=by
   rw [Nat.mul_add w k,Nat.pow_add,Nat.mul_add w d,Nat.pow_add,Nat.mul_one]
   simp only [Nat.mul_comm,Nat.mul_left_comm]
  rw [e,Nat.add_mul_div_right _ _ (Nat.two_pow_pos _),Nat.add_mul_mod_self_right]
 ·show (M+B*2^(w*i))/2^(w*i)%2^w=B
  rw [Nat.add_mul_div_right _ _ (Nat.two_pow_pos _),Nat.div_eq_of_lt h,Nat.zero_add,Nat.mod_eq_of_lt hB]
 ·have e:2^(w*(i+1))=2^w*2^(w*i):=by rw [Nat.mul_add,Nat.mul_one,Nat.pow_add,Nat.mul_comm]
  rw [e]
  have h2:(B+1)*2^(w*i)≤2^w*2^(w*i):=Nat.mul_le_mul_right _ hB
  rw [Nat.add_mul,Nat.one_mul] at h2
  omega
theorem packP_eq {w:Nat}:∀ (l:List Oper) (i M:Nat) (acc:Array Nat),acc.size=i→i+l.length≤w→(∀ k,k<i→maskP M w k=acc.getD k 0)→(∀ k,k<i→acc.getD k 0<2^w)→M<2^(w*i)→
 (edgesOk l i=true∧∃ M',packP w l i M=some M'∧∀ k,maskP M' w k=(l.foldl (fun acc o=>acc.push (maskOf acc o)) acc).getD k 0)∨(edgesOk l i=false∧packP w l i M=none)
 |[],i,M,acc,hs,hw,hm,hb,hM=>by
  refine .inl ⟨rfl,M,rfl,fun k=>?_⟩
  by_cases hk:k<i
  ·exact hm k hk
  ·rw [maskP_zero hM (by omega),List.foldl_nil]
   simp [Array.getD,show ¬k<acc.size by omega]
 |o::l,i,M,acc,hs,hw,hm,hb,hM=>by
  rw [List.length_cons] at hw
  have unf:packP w (o::l) i M=Option.rec (motive:=fun _=>Option Nat) none (fun B=>packP w l (i+1) (M+B*2^(w*i))) (edgesP M w i o.after.toList 0):=rfl
  have he:edgesOk (o::l) i=(o.after.toList.all (fun e=> !Region.binds .any e||Nat.blt e.on i)&&edgesOk l (i+1)):=rfl
  rw [unf,he]
  rcases edgesP_eq hm (by omega) hb o.after.toList 0 (Nat.two_pow_pos _) with ⟨h1,h2,h3⟩|⟨h1,h2⟩
  ·rw [h1,h2,Bool.true_and]
   have em:o.after.toList.foldl (fun s e=>if Region.binds .any e then s|||2^e.on|||acc.getD e.on 0 else s) 0=maskOf acc o:=by
    unfold maskOf;rw [Array.foldl_toList]
   rw [em] at h3 ⊢
   obtain ⟨a1,a2,a3⟩:=maskP_add (B:=maskOf acc o) hM h3
   rw [List.foldl_cons]
   have hg:∀ k,k<i+1→(acc.push (maskOf acc o)).getD k 0=if k<i then acc.getD k 0 else maskOf acc o:=by
    intro k hk
    by_cases h:k<i
    ·rw [if_pos h];simp [Array.getElem?_push,show k≠acc.size by omega]
    ·rw [if_neg h];have:k=acc.size:=by omega
     subst this;simp
   refine packP_eq l (i+1) _ (acc.push (maskOf acc o)) (by simp [hs]) (by omega) (fun k hk=>?_) (fun k hk=>?_) a3
   ·rw [hg k hk]
    by_cases h:k<i
    ·rw [if_pos h,←hm k h];exact a1 k h
    ·rw [if_neg h];have:k=i:=by omega
     subst this;exact a2
   ·rw [hg k hk]
    by_cases h:k<i
    ·rw [if_pos h];exact hb k h
    ·rw [if_neg h];exact h3
  ·rw [h1,h2];exact .inr ⟨rfl,rfl⟩
theorem pack_all (ops:Array Oper):(edgesOk ops.toList 0=true∧∃ M,packP ops.size ops.toList 0 0=some M∧(fun i=>maskP M ops.size i)=fun i=>(Region.before ops).getD i 0)∨(edgesOk ops.toList 0=false∧packP ops.size ops.toList 0 0=none):=by
 rcases packP_eq (w:=ops.size) ops.toList 0 0 #[] rfl (by simp) (fun k hk=>by omega) (fun k hk=>by omega) (Nat.two_pow_pos _) with ⟨h1,M,h2,h3⟩|h
 ·refine .inl ⟨h1,M,h2,?_⟩
  funext k
  rw [h3 k,before_eq,←Array.foldl_toList]
 ·exact .inr h
def boundM (m:Nat→Nat) (i j:Nat):Bool:=Bool.rec (motive:=fun _=>Bool) (Bool.rec (motive:=fun _=>Bool) (bitF (m i) j) (bitF (m j) i) (Nat.blt i j)) true (Nat.beq i j)
theorem boundM_eq {m:Nat→Nat} {Bs:Array Nat} (hm:m=fun i=>Bs.getD i 0) (i j:Nat):boundM m i j=bound Bs i j:=by
 subst hm
 unfold boundM bound
 rw [bitF_eq,bitF_eq]
 cases Nat.beq i j with
 |true=>rfl
 |false=>cases Nat.blt i j<;>rfl
def dstsF (l:List Oper):Nat→List (Nat×Nat):=
 List.rec (motive:=fun _=>Nat→List (Nat×Nat)) (fun _=>[]) (fun o _ ih i=>Option.rec (motive:=fun _=>List (Nat×Nat)) (ih (Nat.succ i)) (fun d=>(d,i)::ih (Nat.succ i)) o.dst) l
def writersF (m:Nat→Nat) (t j:Nat) (l:List (Nat×Nat)):Bool:=
 List.rec (motive:=fun _=>Bool) true (fun p _ ih=>Bool.rec (motive:=fun _=>Bool) ih (Bool.rec (motive:=fun _=>Bool) false ih (boundM m p.2 j)) (Nat.beq p.1 t)) l
theorem writersF_eq {m:Nat→Nat} {Bs:Array Nat} (hm:m=fun i=>Bs.getD i 0) (t j:Nat):∀ (l:List Oper) (k:Nat),writersF m t j (dstsF l k)=namesOk.writersOk Bs t j l k
 |[],_=>rfl
 |o::l,k=>by
  have ih:=writersF_eq hm t j l (k+1)
  have e1:dstsF (o::l) k=Option.rec (motive:=fun _=>List (Nat×Nat)) (dstsF l (k+1)) (fun d=>(d,k)::dstsF l (k+1)) o.dst:=rfl
  have e2:namesOk.writersOk Bs t j (o::l) k=((match o.dst with|some d=> !(Nat.beq d t)||bound Bs k j|none=>true)&&namesOk.writersOk Bs t j l (k+1)):=rfl
  rw [e1,e2]
  cases o.dst with
  |none=>rw [Bool.true_and];exact ih
  |some d=>
   show Bool.rec (motive:=fun _=>Bool) (writersF m t j (dstsF l (k+1))) (Bool.rec (motive:=fun _=>Bool) false (writersF m t j (dstsF l (k+1))) (boundM m k j)) (Nat.beq d t)=((!(Nat.beq d t)||bound Bs k j)&&namesOk.writersOk Bs t j l (k+1))
   rw [ih,boundM_eq hm]
   cases Nat.beq d t with
   |false=>rfl
   |true=>cases bound Bs k j<;>rfl
def namesF (m:Nat→Nat) (ops:Array Oper) (ds:List (Nat×Nat)) (l:List Oper):Nat→Bool:=
 List.rec (motive:=fun _=>Nat→Bool) (fun _=>true)
  (fun o _ ih j=>Bool.rec (motive:=fun _=>Bool) false (ih (Nat.succ j)) (List.rec (motive:=fun _=>Bool) true (fun t _ ih2=>Bool.rec (motive:=fun _=>Bool) false ih2 (writersF m t j ds)) (namesA ops o))) l
theorem all_rec {α:Type} (f:α→Bool):∀ l:List α,List.rec (motive:=fun _=>Bool) true (fun t _ ih2=>Bool.rec (motive:=fun _=>Bool) false ih2 (f t)) l=l.all f
 |[]=>rfl
 |a::l=>by
  show Bool.rec (motive:=fun _=>Bool) false (List.rec (motive:=fun _=>Bool) true (fun t _ ih2=>Bool.rec (motive:=fun _=>Bool) false ih2 (f t)) l) (f a)=_
  rw [all_rec f l,List.all_cons]
  cases f a<;>rfl
theorem namesF_eq {m:Nat→Nat} {Bs:Array Nat} (hm:m=fun i=>Bs.getD i 0) (ops:Array Oper):∀ (l:List Oper) (j:Nat),namesF m ops (dstsF ops.toList 0) l j=namesOk ops Bs l j
 |[],_=>rfl
 |o::l,j=>by
  have ih:=namesF_eq hm ops l (j+1)
  have e1:namesF m ops (dstsF ops.toList 0) (o::l) j=Bool.rec (motive:=fun _=>Bool) false (namesF m ops (dstsF ops.toList 0) l (j+1)) (List.rec (motive:=fun _=>Bool) true (fun t _ ih2=>Bool.rec (motive:=fun _=>Bool) false ih2 (writersF m t j (dstsF ops.toList 0))) (namesA ops o)):=rfl
  have e2:namesOk ops Bs (o::l) j=((namesA ops o).all (fun t=>namesOk.writersOk Bs t j ops.toList 0)&&namesOk ops Bs l (j+1)):=rfl
  rw [e1,e2,ih,all_rec]
  simp only [writersF_eq hm]
  cases (namesA ops o).all (fun t=>namesOk.writersOk Bs t j ops.toList 0)<;>rfl
end Go.CE
namespace Go.CE
open Go Go.RowKit
variable {P:Program} {G:Nat}
structure GetK where
 f:TV→Option Value
structure PutK where
 f:Nat→TV→Value→TV
structure ReadK where
 f:TV→H→Option Value
structure LoadK where
 f:H→Nat→Nat→Option Value
structure BinK where
 f:Value→Value→Option Value
def getK (G:Nat) (x:Operand):GetK:=
 Operand.rec (motive:=fun _=>GetK) (fun t=>⟨(TV.getB t).f⟩) (fun v=>Bool.rec (motive:=fun _=>GetK) ⟨fun _=>none⟩ ⟨fun _=>some v⟩ (af 6 v))
  (fun g=>Bool.rec (motive:=fun _=>GetK) ⟨fun _=>none⟩ ⟨fun _=>some (.pointer (some ⟨g,0,none⟩))⟩ (Nat.blt g G)) (fun f=>⟨fun _=>some (.func (.func f) #[] #[])⟩) x
theorem getK_eq (tm:TV) (x:Operand):(getK G x).f tm=aeval G tm x:=by
 cases x with
 |tmp t=>rfl
 |const v=>show (Bool.rec (motive:=fun _=>GetK) ⟨fun _=>none⟩ ⟨fun _=>some v⟩ (af 6 v)).f tm=bif af 6 v then some v else none
           cases af 6 v<;>rfl
 |global g=>show (Bool.rec (motive:=fun _=>GetK) ⟨fun _=>none⟩ ⟨fun _=>some (.pointer (some ⟨g,0,none⟩))⟩ (Nat.blt g G)).f tm=bif Nat.blt g G then some (.pointer (some ⟨g,0,none⟩)) else none
            cases Nat.blt g G<;>rfl
 |func f=>rfl
def putK (dst:Option Tmp):PutK:=
 Option.rec (motive:=fun _=>PutK) ⟨fun _ tm _=>tm⟩ (fun d=>⟨fun sz tm v=>Bool.rec (motive:=fun _=>TV) tm ((TV.setB d).f (some v) tm) (Nat.blt d sz)⟩) dst
theorem putK_eq (dst:Option Tmp) (sz:Nat) (tm:TV) (v:Value):(putK dst).f sz tm v=tput sz tm dst v:=by
 cases dst with
 |none=>rfl
 |some d=>show Bool.rec (motive:=fun _=>TV) tm ((TV.setB d).f (some v) tm) (Nat.blt d sz)=bif Nat.blt d sz then tm.set d (some v) else tm
          cases Nat.blt d sz<;>rfl
def onPtr (f:Nat→Nat→Option Value) (v:Value):Option Value:=
 match v with
 | .pointer (some ⟨i,k,none⟩)=>f i k
 |_=>none
def loadK (P:Program) (t:TypeId):LoadK:=
 Option.rec (motive:=fun _=>LoadK) ⟨fun _ _ _=>none⟩
  (fun b=>Bool.rec (motive:=fun _=>LoadK)
    ⟨fun h i k=>Option.rec (motive:=fun _=>Option Value) none (fun cs=>nthF cs k) (cellsOfO (h.hp.get i))⟩
    (Option.rec (motive:=fun _=>LoadK) ⟨fun _ _ _=>none⟩ (fun n=>⟨fun h i k=>Option.rec (motive:=fun _=>Option Value) none (fun l=>some (.agg l.toArray)) (readF h i k n)⟩) (sizeF P t)) b)
  (aggF P t)
theorem take_one (cs:List Value) (k:Nat):(match takeN 1 (cs.drop k) with|some [v]=>some v|_=>none)=cs[k]? :=by
 rw [←List.head?_drop]
 cases cs.drop k with
 |nil=>rfl
 |cons a l=>simp [takeN]
theorem loadK_eq (h:H) (t:TypeId) (i k:Nat):(loadK P t).f h i k=h.loadA P t i k:=by
 unfold loadK H.loadA
 rw [aggF_eq,sizeF_eq]
 cases hb:isAggA P t with
 |none=>cases sizeA P t<;>rfl
 |some b=>
  cases b with
  |false=>
   have e:∀ o:Option Nat,(match some false,o with|some true,some n=>(h.read i k n).map fun l=> .agg l.toArray|some false,_=>(match h.read i k 1 with|some [v]=>some v|_=>none)|_,_=>none)=(match h.read i k 1 with|some [v]=>some v|_=>none):=fun o=>by cases o<;>rfl
   have e2:=e (sizeA P t)
   refine Eq.trans ?_ e2.symm
   show Option.rec (motive:=fun _=>Option Value) none (fun cs=>nthF cs k) (cellsOfO (h.hp.get i))=_
   rw [cellsOfO_eq]
   unfold H.read
   cases h.cells i with
   |none=>rfl
   |some cs=>
    show nthF cs k=(match takeN 1 (cs.drop k) with|some [v]=>some v|_=>none)
    rw [nthF_eq,take_one]
  |true=>
   cases hs:sizeA P t with
   |none=>rfl
   |some n=>
    show Option.rec (motive:=fun _=>Option Value) none (fun l=>some (.agg l.toArray)) (readF h i k n)=(h.read i k n).map fun l=> .agg l.toArray
    rw [readF_eq]
    cases h.read i k n<;>rfl
def fieldOff (P:Program) (s:TypeId) (f:Nat):Option Nat:=
 match undF P s with
 |some (.struct fields)=>match fields[f]? with
  |some f=>match sizeF P f.type with
   |some n=>bif Nat.blt 0 n then some f.offset else none
   |none=>none
  |none=>none
 |_=>none
def fieldK (G:Nat) (x:Operand) (o:Option Nat):ReadK:=
 Option.rec (motive:=fun _=>ReadK) ⟨fun _ _=>none⟩ (fun off=>⟨fun tm _=>Option.rec (motive:=fun _=>Option Value) none (fun v=>onPtr (fun i k=>some (.pointer (some ⟨i,Nat.add k off,none⟩))) v) ((getK G x).f tm)⟩) o
theorem fieldK_eq (tm:TV) (h:H) (s:TypeId) (x:Operand) (f:Nat):(fieldK G x (fieldOff P s f)).f tm h=fieldAddrN P G tm s x f:=by
 unfold fieldAddrN fieldOff
 rw [undF_eq]
 simp only [sizeF_eq]
 cases hu:P.underlying s with
 |none=>rfl
 |some d=>
  cases d with
  |struct fields=>
   simp only
   cases hf:fields[f]? with
   |none=>
    show none=_
    cases aeval G tm x with
    |none=>rfl
    |some v=>cases v with
     |pointer a=>cases a with
      |none=>rfl
      |some a=>obtain ⟨i,k,sp⟩:=a;cases sp<;>simp [hf]
     |_=>rfl
   |some fl=>
    simp only
    cases hz:sizeA P fl.type with
    |none=>
     show none=_
     cases aeval G tm x with
     |none=>rfl
     |some v=>cases v with
      |pointer a=>cases a with
       |none=>rfl
       |some a=>obtain ⟨i,k,sp⟩:=a;cases sp<;>simp [hf,hz]
      |_=>rfl
    |some n=>
     simp only
     cases hn:Nat.blt 0 n with
     |false=>
      show none=_
      cases aeval G tm x with
      |none=>rfl
      |some v=>cases v with
       |pointer a=>cases a with
        |none=>rfl
        |some a=>obtain ⟨i,k,sp⟩:=a;cases sp<;>simp [hf,hz,hn]
       |_=>rfl
     |true=>
      show Option.rec (motive:=fun _=>Option Value) none (fun v=>onPtr (fun i k=>some (.pointer (some ⟨i,Nat.add k fl.offset,none⟩))) v) ((getK G x).f tm)=_
      rw [getK_eq]
      cases aeval G tm x with
      |none=>rfl
      |some v=>cases v with
       |pointer a=>cases a with
        |none=>rfl
        |some a=>
         obtain ⟨i,k,sp⟩:=a
         cases sp with
         |none=>simp [hf,hz,hn,onPtr]
         |some _=>rfl
       |_=>rfl
  |_=>rfl
def binK (P:Program) (op:BinOp) (t:TypeId) (x y:Operand):BinK:=⟨fun a b=>binVF P op t x y a b⟩
def readK (P:Program) (G:Nat) (op:Op):ReadK:=
 (fun d:ReadK=>Op.rec (motive:=fun _=>ReadK)
   (move:=fun x=>⟨fun tm _=>(getK G x).f tm⟩) (assign:=fun x=>⟨fun tm _=>(getK G x).f tm⟩) (pick:=fun _ _ _=>d) (alloc:=fun _=>d) (box:=fun _ _=>d) (build:=fun _ _=>d) (buildSlice:=fun _ _ _=>d)
   (insert:=fun _ _ _ _=>d) (load:=fun t x=>⟨fun tm h=>Option.rec (motive:=fun _=>Option Value) none (fun v=>onPtr ((loadK P t).f h) v) ((getK G x).f tm)⟩) (store:=fun _ _ _=>d) (ready:=fun _=>d) (waits:=fun _=>d) (nilCheck:=fun _=>d)
   (binOp:=fun op t x y _=>⟨fun tm _=>Option.rec (motive:=fun _=>Option Value) none (fun a=>Option.rec (motive:=fun _=>Option Value) none (fun b=>(binK P op t x y).f a b) ((getK G y).f tm)) ((getK G x).f tm)⟩)
   (unOp:=fun _ _ _=>d) (convert:=fun _ _ _=>d) (sliceToArrayPointer:=fun _ _=>d) (makeInterface:=fun _ _=>d) (makeFunc:=fun _ _ _=>d) (makeMap:=fun _ _=>d) (makeChan:=fun _ _=>d) (makeSlice:=fun _ _ _=>d)
   (slice:=fun _ _ _ _ _=>d) (fieldAddr:=fun s x f=>fieldK G x (fieldOff P s f)) (field:=fun _ _ _=>d) (indexAddr:=fun _ _ _=>d) (index:=fun _ _ _=>d) (lookup:=fun _ _ _ _=>d) (mapUpdate:=fun _ _ _ _=>d)
   (mapEntry:=fun _ _ _=>d) (entryStore:=fun _ _ _ _=>d) (range:=fun _ _=>d) (next:=fun _ _=>d) (entry:=fun _=>d) (typeAssert:=fun _ _ _ _=>d) (extract:=fun _ _=>d) (call:=fun _=>d) (go:=fun _=>d)
   (defer:=fun _=>d) (panic:=fun _=>d) (send:=fun _ _=>d) (recv:=fun _ _ _=>d) (select:=fun _ _=>d) op) ⟨fun tm h=>aopNF op P G tm h⟩
theorem onPtr_loadN (tm:TV) (h:H) (t:TypeId) (x:Operand):Option.rec (motive:=fun _=>Option Value) none (fun v=>onPtr ((loadK P t).f h) v) (aeval G tm x)=loadN P G tm h t x:=by
 unfold loadN
 cases aeval G tm x with
 |none=>rfl
 |some v=>cases v with
  |pointer a=>cases a with
   |none=>rfl
   |some a=>
    obtain ⟨i,k,sp⟩:=a
    cases sp with
    |none=>exact loadK_eq h t i k
    |some _=>rfl
  |_=>rfl
theorem readK_eq (op:Op) (tm:TV) (h:H):(readK P G op).f tm h=aopN P G tm h op:=by
 cases op with
 |move x=>exact getK_eq tm x
 |assign x=>exact getK_eq tm x
 |load t x=>
  show Option.rec (motive:=fun _=>Option Value) none (fun v=>onPtr ((loadK P t).f h) v) ((getK G x).f tm)=_
  rw [getK_eq];exact onPtr_loadN tm h t x
 |binOp op t x y u=>
  show Option.rec (motive:=fun _=>Option Value) none (fun a=>Option.rec (motive:=fun _=>Option Value) none (fun b=>binVF P op t x y a b) ((getK G y).f tm)) ((getK G x).f tm)=_
  rw [getK_eq,getK_eq];exact binOpF_eq tm op t x y
 |fieldAddr s x f=>exact fieldK_eq tm h s x f
 |_=>exact Eq.trans (show (readK P G _).f tm h=aopNF _ P G tm h from rfl) (aopNF_eq _ tm h)
abbrev KO:=TV→List Deferred→H→Option (List St)
structure OpK where
 run:(Task→Option (List Out))→Option Nat→Nat→TV→List Deferred→H→KO→Option (List St)
def clsK (P:Program) (G:Nat) (o:Oper) (c:Cls):OpK:=
 Cls.rec (motive:=fun _=>OpK)
  (reads:=⟨fun _ _ sz tm df h k=>Option.rec (motive:=fun _=>Option (List St)) none (fun v=>k ((putK o.dst).f sz tm v) df h) ((readK P G o.op).f tm h)⟩)
  (makes:=⟨fun _ _ sz tm df h k=>Option.rec (motive:=fun _=>Option (List St)) none (fun p=>k ((putK o.dst).f sz tm p.1) df (h.new p.2)) (aopAF o.op P G tm h.nx)⟩)
  (acts:=⟨fun ih rd sz tm df h k=>obindF (actsV G ih df h (aopEF o.op P G rd tm h)) (fun r=>k ((putK o.dst).f sz tm r.v) r.df r.h)⟩)
  (next:=⟨fun _ _ sz tm df h k=>obindF (nextV G o.op tm df h) (fun r=>k ((putK o.dst).f sz tm r.v) r.df r.h)⟩) c
def opK (P:Program) (G:Nat) (ops:Array Oper) (o:Oper):OpK:=
 Option.rec (motive:=fun _=>OpK) (clsK P G o (clsT P o.op))
  (fun _=>⟨fun ih rd sz tm df h k=>Option.rec (motive:=fun _=>Option (List St)) none
    (fun b=>Bool.rec (motive:=fun _=>Option (List St)) (k ((putK o.dst).f sz tm undef) df h) ((clsK P G o (clsT P o.op)).run ih rd sz tm df h k) b) (wantedF ops tm o)⟩) o.guard
theorem lbind_map {α β γ:Type} (f:α→β) (g:β→Option (List γ)):∀ l:List α,lbind g (l.map f)=lbind (fun a=>g (f a)) l
 |[]=>rfl
 |[a]=>by
  show lbind g [f a]=lbind (fun a=>g (f a)) [a]
  unfold lbind
  rfl
 |a::b::r=>by
  have ih:=lbind_map f g (b::r)
  rw [List.map_cons] at ih
  rw [List.map_cons,List.map_cons]
  unfold lbind
  cases g (f a) with
  |none=>rfl
  |some x=>simp only [ih]
theorem clsK_eq (ih:Task→Option (List Out)) (rd:Option Nat) (o:Oper) (sz:Nat) (tm:TV) (df:List Deferred) (h:H) (k:KO):
 (clsK P G o (cls P o.op)).run ih rd sz tm df h k=obind (runOpV P G ih rd o.op tm df h) (fun r=>k (tput sz tm o.dst r.v) r.df r.h):=by
 have one:∀ (r:V3),obind (some [r]) (fun r=>k (tput sz tm o.dst r.v) r.df r.h)=k (tput sz tm o.dst r.v) r.df r.h:=by
  intro r
  unfold obind
  simp only
  unfold lbind
  cases k (tput sz tm o.dst r.v) r.df r.h<;>rfl
 unfold runOpV
 cases cls P o.op with
 |reads=>
  show Option.rec (motive:=fun _=>Option (List St)) none (fun v=>k ((putK o.dst).f sz tm v) df h) ((readK P G o.op).f tm h)=_
  rw [readK_eq]
  simp only
  cases aopN P G tm h o.op with
  |none=>rfl
  |some v=>rw [one];show k ((putK o.dst).f sz tm v) df h=_;rw [putK_eq]
 |makes=>
  show Option.rec (motive:=fun _=>Option (List St)) none (fun p=>k ((putK o.dst).f sz tm p.1) df (h.new p.2)) (aopAF o.op P G tm h.nx)=_
  rw [aopAF_eq]
  simp only
  cases aopA P G tm h.nx o.op with
  |none=>rfl
  |some p=>obtain ⟨v,b⟩:=p;rw [one];show k ((putK o.dst).f sz tm v) df (h.new b)=_;rw [putK_eq]
 |acts=>
  show obindF (actsV G ih df h (aopEF o.op P G rd tm h)) (fun r=>k ((putK o.dst).f sz tm r.v) r.df r.h)=_
  rw [obindF_eq,aopEF_eq]
  simp only [putK_eq]
  cases aopE P G rd tm h o.op<;>rfl
 |next=>
  show obindF (nextV G o.op tm df h) (fun r=>k ((putK o.dst).f sz tm r.v) r.df r.h)=_
  rw [obindF_eq]
  simp only [putK_eq]
  rfl
structure RegK where
 run:(Task→Option (List Out))→Option Nat→Nat→KO
def regK (P:Program) (G:Nat) (ops:Array Oper) (l:List Oper):RegK:=
 List.rec (motive:=fun _=>RegK) ⟨fun _ _ sz tm df h=>some [⟨tm,sz,df,h⟩]⟩ (fun o _ rest=>⟨fun ih rd sz tm df h=>(opK P G ops o).run ih rd sz tm df h (rest.run ih rd sz)⟩) l
theorem regK_eq (ih:Task→Option (List Out)) (rd:Option Nat) (ops:Array Oper):∀ (l:List Oper) (st:St),(regK P G ops l).run ih rd st.sz st.tm st.df st.h=runOps P G ih rd ops l st
 |[],st=>rfl
 |o::rest,st=>by
  have e:∀ (tm:TV) (df:List Deferred) (h:H),(regK P G ops rest).run ih rd st.sz tm df h=runOps P G ih rd ops rest ⟨tm,st.sz,df,h⟩:=fun tm df h=>regK_eq ih rd ops rest ⟨tm,st.sz,df,h⟩
  have run:(clsK P G o (cls P o.op)).run ih rd st.sz st.tm st.df st.h ((regK P G ops rest).run ih rd st.sz)=obind (runOp P G ih rd o st) (runOps P G ih rd ops rest):=by
   rw [clsK_eq]
   unfold runOp
   have e3:(fun r:V3=>(regK P G ops rest).run ih rd st.sz (tput st.sz st.tm o.dst r.v) r.df r.h)=fun r=>runOps P G ih rd ops rest (putV st o.dst r):=by
    funext r
    rw [e];rfl
   rw [e3]
   cases runOpV P G ih rd o.op st.tm st.df st.h with
   |none=>rfl
   |some l=>exact (lbind_map (putV st o.dst) (runOps P G ih rd ops rest) l).symm
  show (opK P G ops o).run ih rd st.sz st.tm st.df st.h ((regK P G ops rest).run ih rd st.sz)=(match wantedA ops st.tm o with
   |none=>none
   |some false=>runOps P G ih rd ops rest (putV st o.dst ⟨undef,st.df,st.h⟩)
   |some true=>obind (runOp P G ih rd o st) (runOps P G ih rd ops rest))
  unfold opK
  rw [clsT_eq]
  cases hg:o.guard with
  |none=>
   have hw:wantedA ops st.tm o=some true:=by unfold wantedA;rw [hg]
   rw [hw]
   exact run
  |some g=>
   show Option.rec (motive:=fun _=>Option (List St)) none
    (fun b=>Bool.rec (motive:=fun _=>Option (List St)) ((regK P G ops rest).run ih rd st.sz ((putK o.dst).f st.sz st.tm undef) st.df st.h) ((clsK P G o (cls P o.op)).run ih rd st.sz st.tm st.df st.h ((regK P G ops rest).run ih rd st.sz)) b) (wantedF ops st.tm o)=_
   rw [wantedF_eq,run,e,putK_eq]
   cases wantedA ops st.tm o with
   |none=>rfl
   |some b=>cases b<;>rfl
def withF (B:Nat) (h:H) (as:List (Nat×Nat×AObj)):H:=
 List.rec (motive:=fun _=>H) h (fun p _ ih=>Bool.rec (motive:=fun _=>H) ih (Option.rec (motive:=fun _=>H) {hp:=ih.hp.set p.2.1 (some p.2.2),nx:=ih.nx,mw:=ih.mw} (fun _=>ih) (h.hp.get p.2.1)) (bitF B p.1)) as
theorem withF_eq (B:Nat) (h:H):∀ as:List (Nat×Nat×AObj),withF B h as=withA B h as
 |[]=>rfl
 |(k,id,o)::r=>by
  show Bool.rec (motive:=fun _=>H) (withF B h r) (Option.rec (motive:=fun _=>H) {hp:=(withF B h r).hp.set id (some o),nx:=(withF B h r).nx,mw:=(withF B h r).mw} (fun _=>withF B h r) (h.hp.get id)) (bitF B k)=_
  rw [withF_eq B h r,bitF_eq]
  show _=(bif Nat.testBit B k then (match h.hp.get id with|none=>{hp:=(withA B h r).hp.set id (some o),nx:=(withA B h r).nx,mw:=(withA B h r).mw} |some _=>withA B h r) else withA B h r)
  cases Nat.testBit B k with
  |false=>rfl
  |true=>cases h.hp.get id<;>rfl
def keepF (b:Bool) (n nx0 sz i:Nat) (o:Oper) (h0:H) (d:Dr) (r:V3):Option Dr:=
 Bool.rec (motive:=fun _=>Option Dr) none (some {tm:=(putK o.dst).f sz d.tm r.v,df:=r.df,h:=r.h,as:=d.as,es:=i::d.es,rs:=⟨i,o,d.tm,.acts r.df r.h,r.v⟩::d.rs}) (b||keepsAll nx0 h0 r.h n)
def oneF (l:Option (List V3)) (k:V3→Option Dr):Option Dr:=
 Option.rec (motive:=fun _=>Option Dr) none (fun l=>List.rec (motive:=fun _=>Option Dr) none (fun r t _=>List.rec (motive:=fun _=>Option Dr) (k r) (fun _ _ _=>none) t) l) l
theorem oneF_eq (n nx0 sz i:Nat) (o:Oper) (h0:H) (d:Dr) (l:Option (List V3)):oneF l (keepF (isStore o.op) n nx0 sz i o h0 d)=drActs n nx0 sz i o h0 d l:=by
 unfold drActs
 cases l with
 |none=>rfl
 |some l=>cases l with
  |nil=>rfl
  |cons r t=>cases t with
   |nil=>
    show keepF (isStore o.op) n nx0 sz i o h0 d r=_
    unfold keepF
    rw [putK_eq]
    simp only
    cases (isStore o.op||keepsAll nx0 h0 r.h n)<;>rfl
   |cons _ _=>rfl
structure DrK where
 run:(Task→Option (List Out))→Option Nat→Nat→Nat→Dr→Option Dr
def drActK (n B i:Nat) (o:Oper) (r:(Task→Option (List Out))→Option Nat→Dr→H→Option (List V3)):DrK:=
 ⟨fun ih rd sz nx0 d=>Bool.rec (motive:=fun _=>Option Dr) none (oneF (r ih rd d (withF B d.h d.as)) (keepF (isStore o.op) n nx0 sz i o (withF B d.h d.as) d)) (d.es.all (bitF B))⟩
def drClsK (P:Program) (G n B i:Nat) (o:Oper) (c:Cls):DrK:=
 Cls.rec (motive:=fun _=>DrK)
  (reads:=⟨fun _ _ sz _ d=>Option.rec (motive:=fun _=>Option Dr) none (fun v=>some {tm:=(putK o.dst).f sz d.tm v,df:=d.df,h:=d.h,as:=d.as,es:=d.es,rs:=⟨i,o,d.tm,.reads,v⟩::d.rs}) ((readK P G o.op).f d.tm (withF B d.h d.as))⟩)
  (makes:=⟨fun _ _ sz nx0 d=>Option.rec (motive:=fun _=>Option Dr) none
    (fun p=>some {tm:=(putK o.dst).f sz d.tm p.1,df:=d.df,h:=d.h,as:=(i,nx0+i,p.2)::d.as,es:=d.es,rs:=⟨i,o,d.tm,.makes (nx0+i) p.2,p.1⟩::d.rs}) (aopAF o.op P G d.tm (nx0+i))⟩)
  (acts:=drActK n B i o (fun ih rd d h=>actsV G ih d.df h (aopEF o.op P G rd d.tm h)))
  (next:=drActK n B i o (fun _ _ d h=>nextV G o.op d.tm d.df h)) c
def drStepK (P:Program) (G:Nat) (ops:Array Oper) (B i:Nat) (o:Oper):DrK:=
 Option.rec (motive:=fun _=>DrK) (drClsK P G ops.size B i o (clsT P o.op))
  (fun g=>Bool.rec (motive:=fun _=>DrK) ⟨fun _ _ _ _ _=>none⟩
    ⟨fun ih rd sz nx0 d=>Option.rec (motive:=fun _=>Option Dr) none
      (fun w=>Bool.rec (motive:=fun _=>Option Dr) (some {tm:=(putK o.dst).f sz d.tm undef,df:=d.df,h:=d.h,as:=d.as,es:=d.es,rs:=⟨i,o,d.tm,.skip,undef⟩::d.rs})
        ((drClsK P G ops.size B i o (clsT P o.op)).run ih rd sz nx0 d) w) (wantedF ops d.tm o)⟩ (bitF B g.1)) o.guard
theorem drClsK_eq (ih:Task→Option (List Out)) (rd:Option Nat) (sz:Nat) (ops:Array Oper) (Bs:Array Nat) (nx0 i:Nat) (o:Oper) (d:Dr):
 (drClsK P G ops.size (Bs.getD i 0) i o (cls P o.op)).run ih rd sz nx0 d=drCls (cls P o.op) P G ih rd sz ops Bs nx0 i o d:=by
 have act:∀ r:(Task→Option (List Out))→Option Nat→Dr→H→Option (List V3),(∀ h,r ih rd d h=runOpV P G ih rd o.op d.tm d.df h)→
  (drActK ops.size (Bs.getD i 0) i o r).run ih rd sz nx0 d=drActV P G ih rd sz ops Bs nx0 i o d:=by
  intro r hr
  show Bool.rec (motive:=fun _=>Option Dr) none (oneF (r ih rd d (withF (Bs.getD i 0) d.h d.as)) (keepF (isStore o.op) ops.size nx0 sz i o (withF (Bs.getD i 0) d.h d.as) d)) (d.es.all (bitF (Bs.getD i 0)))=_
  rw [hr,oneF_eq,withF_eq]
  have e:bitF (Bs.getD i 0)=fun e=>Nat.testBit (Bs.getD i 0) e:=funext (bitF_eq _)
  rw [e]
  unfold drActV drEff
  rw [runOpVF_eq]
 have hrun:runOpV P G ih rd o.op d.tm d.df=fun h=>runOpV P G ih rd o.op d.tm d.df h:=rfl
 cases hc:cls P o.op with
 |reads=>
  show Option.rec (motive:=fun _=>Option Dr) none (fun v=>some {tm:=(putK o.dst).f sz d.tm v,df:=d.df,h:=d.h,as:=d.as,es:=d.es,rs:=⟨i,o,d.tm,.reads,v⟩::d.rs}) ((readK P G o.op).f d.tm (withF (Bs.getD i 0) d.h d.as))=
   Option.rec (motive:=fun _=>Option Dr) none (fun v=>some {tm:=tput sz d.tm o.dst v,df:=d.df,h:=d.h,as:=d.as,es:=d.es,rs:=⟨i,o,d.tm,.reads,v⟩::d.rs}) (aopNF o.op P G d.tm (withA (Bs.getD i 0) d.h d.as))
  rw [readK_eq,aopNF_eq,withF_eq]
  simp only [putK_eq]
 |makes=>
  show Option.rec (motive:=fun _=>Option Dr) none
   (fun p=>some {tm:=(putK o.dst).f sz d.tm p.1,df:=d.df,h:=d.h,as:=(i,nx0+i,p.2)::d.as,es:=d.es,rs:=⟨i,o,d.tm,.makes (nx0+i) p.2,p.1⟩::d.rs}) (aopAF o.op P G d.tm (nx0+i))=
   Option.rec (motive:=fun _=>Option Dr) none
   (fun p=>some {tm:=tput sz d.tm o.dst p.1,df:=d.df,h:=d.h,as:=(i,nx0+i,p.2)::d.as,es:=d.es,rs:=⟨i,o,d.tm,.makes (nx0+i) p.2,p.1⟩::d.rs}) (aopAF o.op P G d.tm (nx0+i))
  simp only [putK_eq]
 |acts=>
  refine act (fun ih rd d h=>actsV G ih d.df h (aopEF o.op P G rd d.tm h)) (fun h=>?_)
  unfold runOpV
  rw [hc,aopEF_eq]
  unfold actsV
  cases aopE P G rd d.tm h o.op<;>rfl
 |next=>
  refine act (fun _ _ d h=>nextV G o.op d.tm d.df h) (fun h=>?_)
  unfold runOpV
  rw [hc]
  rfl
theorem drStepK_eq (ih:Task→Option (List Out)) (rd:Option Nat) (sz:Nat) (ops:Array Oper) (Bs:Array Nat) (nx0 i:Nat) (o:Oper) (d:Dr):
 (drStepK P G ops (Bs.getD i 0) i o).run ih rd sz nx0 d=drStep P G ih rd sz ops Bs nx0 i o d:=by
 rw [←drStepF_eq]
 unfold drStepK drStepF guardOk
 rw [clsT_eq]
 cases hg:o.guard with
 |none=>
  have hw:wantedF ops d.tm o=some true:=by unfold wantedF;rw [hg]
  rw [hw]
  exact drClsK_eq ih rd sz ops Bs nx0 i o d
 |some g=>
  obtain ⟨j,b⟩:=g
  show (Bool.rec (motive:=fun _=>DrK) ⟨fun _ _ _ _ _=>none⟩ _ (bitF (Bs.getD i 0) j)).run ih rd sz nx0 d=Bool.rec (motive:=fun _=>Option Dr) none _ (Nat.testBit (Bs.getD i 0) j)
  rw [bitF_eq]
  cases Nat.testBit (Bs.getD i 0) j with
  |false=>rfl
  |true=>
   show Option.rec (motive:=fun _=>Option Dr) none
    (fun w=>Bool.rec (motive:=fun _=>Option Dr) (some {tm:=(putK o.dst).f sz d.tm undef,df:=d.df,h:=d.h,as:=d.as,es:=d.es,rs:=⟨i,o,d.tm,.skip,undef⟩::d.rs})
      ((drClsK P G ops.size (Bs.getD i 0) i o (cls P o.op)).run ih rd sz nx0 d) w) (wantedF ops d.tm o)=_
   rw [drClsK_eq]
   simp only [putK_eq]
def drOpsK (P:Program) (G:Nat) (ops:Array Oper) (m:Nat→Nat) (l:List Oper):Nat→DrK:=
 List.rec (motive:=fun _=>Nat→DrK) (fun _=>⟨fun _ _ _ _ d=>some d⟩)
  (fun o _ rest i=>⟨fun ih rd sz nx0 d=>Option.rec (motive:=fun _=>Option Dr) none (fun d'=>(rest (Nat.succ i)).run ih rd sz nx0 d') ((drStepK P G ops (m i) i o).run ih rd sz nx0 d)⟩) l
theorem drOpsK_eq (ih:Task→Option (List Out)) (rd:Option Nat) (sz:Nat) (ops:Array Oper) {m:Nat→Nat} {Bs:Array Nat} (hm:m=fun i=>Bs.getD i 0) (nx0:Nat):∀ (l:List Oper) (i:Nat) (d:Dr),(drOpsK P G ops m l i).run ih rd sz nx0 d=drOps P G ih rd sz ops Bs nx0 l i d
 |[],_,_=>rfl
 |o::rest,i,d=>by
  show Option.rec (motive:=fun _=>Option Dr) none (fun d'=>(drOpsK P G ops m rest (i+1)).run ih rd sz nx0 d') ((drStepK P G ops (m i) i o).run ih rd sz nx0 d)=_
  have e:m i=Bs.getD i 0:=by rw [hm]
  rw [e,drStepK_eq]
  show _=(match drStep P G ih rd sz ops Bs nx0 i o d with|some d'=>drOps P G ih rd sz ops Bs nx0 rest (i+1) d'|none=>none)
  cases drStep P G ih rd sz ops Bs nx0 i o d with
  |none=>rfl
  |some d'=>exact drOpsK_eq ih rd sz ops hm nx0 rest (i+1) d'
def walkK (m:Nat→Nat) (B ri:Nat) (v:Value) (rd:H→Option Value) (as:List (Nat×Nat×AObj)) (st:List Stage):H→Bool:=
 List.rec (motive:=fun _=>H→Bool) (fun h=>allEq v (rd (withF B h as)))
  (fun e rest ih h=>Bool.rec (motive:=fun _=>Bool) false (Bool.rec (motive:=fun _=>Bool) (ih e.h) true (bitF (m e.i) ri)) (Bool.rec (motive:=fun _=>Bool) (allEq v (rd (withF B h as))) true ((e::rest).any fun e=>bitF B e.i))) st
theorem walkK_eq {m:Nat→Nat} {Bs:Array Nat} (hm:m=fun i=>Bs.getD i 0) (B:Nat) (as:List (Nat×Nat×AObj)) (r:Rec):∀ (st:List Stage) (h:H),walkK m B r.i r.v (fun h=>(readK P G r.o.op).f r.tm h) as st h=walkOk P G Bs B as r st h
 |[],h=>by
  show allEq r.v ((readK P G r.o.op).f r.tm (withF B h as))=(false||allEq r.v (aopN P G r.tm (withA B h as) r.o.op))
  rw [readK_eq,withF_eq,Bool.false_or]
 |e::rest,h=>by
  show Bool.rec (motive:=fun _=>Bool) false (Bool.rec (motive:=fun _=>Bool) (walkK m B r.i r.v (fun h=>(readK P G r.o.op).f r.tm h) as rest e.h) true (bitF (m e.i) r.i)) (Bool.rec (motive:=fun _=>Bool) (allEq r.v ((readK P G r.o.op).f r.tm (withF B h as))) true ((e::rest).any fun e=>bitF B e.i))=
   (((e::rest).any (fun e=>Nat.testBit B e.i)||allEq r.v (aopN P G r.tm (withA B h as) r.o.op))&&(Nat.testBit (Bs.getD e.i 0) r.i||walkOk P G Bs B as r rest e.h))
  have em:m e.i=Bs.getD e.i 0:=by rw [hm]
  rw [readK_eq,withF_eq,bitF_eq,walkK_eq hm B as r rest,em]
  simp only [bitF_eq]
  cases ((e::rest).any fun e=>Nat.testBit B e.i)<;>cases (allEq r.v (aopN P G r.tm (withA B h as) r.o.op))<;>cases (Nat.testBit (Bs.getD e.i 0) r.i)<;>rfl
def recK (P:Program) (G:Nat) (m:Nat→Nat) (as:List (Nat×Nat×AObj)) (st:List Stage) (h0:H) (r:Rec):Bool:=
 RK.rec (motive:=fun _=>Bool) true (Bool.rec (motive:=fun _=>Bool) (walkK m (m r.i) r.i r.v (fun h=>(readK P G r.o.op).f r.tm h) as st h0) true (noHeap r.o.op)) (fun _ _=>true) (fun _ _=>true) r.k
def recsK (P:Program) (G:Nat) (m:Nat→Nat) (as:List (Nat×Nat×AObj)) (st:List Stage) (h0:H) (rs:List Rec):Bool:=
 List.rec (motive:=fun _=>Bool) true (fun r _ ih=>Bool.rec (motive:=fun _=>Bool) false ih (recK P G m as st h0 r)) rs
theorem recsK_eq {m:Nat→Nat} {Bs:Array Nat} (hm:m=fun i=>Bs.getD i 0) (as:List (Nat×Nat×AObj)) (st:List Stage) (h0:H):∀ (rs:List Rec),recsK P G m as st h0 rs=recsOk P G Bs as st h0 rs
 |[]=>rfl
 |r::rs=>by
  show Bool.rec (motive:=fun _=>Bool) false (recsK P G m as st h0 rs) (recK P G m as st h0 r)=_
  rw [recsK_eq hm as st h0 rs]
  unfold recK
  have em:m r.i=Bs.getD r.i 0:=by rw [hm]
  rw [em]
  obtain ⟨i,o,tm,k,v⟩:=r
  cases k with
  |reads=>
   show Bool.rec (motive:=fun _=>Bool) false (recsOk P G Bs as st h0 rs) (Bool.rec (motive:=fun _=>Bool) (walkK m (Bs.getD i 0) (⟨i,o,tm,.reads,v⟩:Rec).i (⟨i,o,tm,.reads,v⟩:Rec).v (fun h=>(readK P G (⟨i,o,tm,.reads,v⟩:Rec).o.op).f (⟨i,o,tm,.reads,v⟩:Rec).tm h) as st h0) true (noHeap o.op))=
    ((noHeap o.op||walkOk P G Bs (Bs.getD i 0) as ⟨i,o,tm,.reads,v⟩ st h0)&&recsOk P G Bs as st h0 rs)
   rw [walkK_eq hm]
   cases noHeap o.op with
   |true=>rfl
   |false=>cases walkOk P G Bs (Bs.getD i 0) as ⟨i,o,tm,.reads,v⟩ st h0<;>rfl
  |_=>rfl
def drawK (P:Program) (G:Nat) (ih:Task→Option (List Out)) (rd:Option Nat) (ops:Array Oper) (m:Nat→Nat) (ok:Bool) (st:St):Option St:=
 Bool.rec (motive:=fun _=>Option St) none
  (Option.rec (motive:=fun _=>Option St) none
    (fun d=>Bool.rec (motive:=fun _=>Option St) none (some {tm:=d.tm,sz:=st.sz,df:=d.df,h:=withF (Nat.sub (Nat.pow 2 ops.size) 1) d.h d.as})
      (recsK P G m d.as (stagesOf d.rs []) {hp:=st.h.hp,nx:=st.h.nx+ops.size,mw:=st.h.mw} d.rs))
    ((drOpsK P G ops m ops.toList 0).run ih rd st.sz st.h.nx {tm:=st.tm,df:=st.df,h:={hp:=st.h.hp,nx:=st.h.nx+ops.size,mw:=st.h.mw},as:=[],es:=[],rs:=[]})) ok
theorem drawK_eq (ih:Task→Option (List Out)) (rd:Option Nat) (ops:Array Oper) {m:Nat→Nat} {Bs:Array Nat} (hm:m=fun i=>Bs.getD i 0) (ok:Bool) (st:St):drawK P G ih rd ops m ok st=drawF P G ih rd ops Bs ok st:=by
 unfold drawK drawF
 rw [drOpsK_eq ih rd st.sz ops hm,drOpsF_eq]
 simp only [recsK_eq hm,recsF_eq,withF_eq]
 rfl
def effK (G B:Nat) (t:Nat×Nat×List Value) (rs:List Rec):Bool:=
 List.rec (motive:=fun _=>Bool) true (fun r _ ih=>Bool.rec (motive:=fun _=>Bool) false ih (RK.rec (motive:=fun _=>Bool) true true (fun _ _=>true)
  (fun _ _=>Bool.rec (motive:=fun _=>Bool) (match targetA G r.tm r.o.op with|some t'=>apartA t t'|none=>false) true (bitF B r.i)) r.k)) rs
theorem effK_eq (B:Nat) (t:Nat×Nat×List Value):∀ rs:List Rec,effK G B t rs=effOk G B t rs
 |[]=>rfl
 |r::rs=>by
  show Bool.rec (motive:=fun _=>Bool) false (effK G B t rs) (RK.rec (motive:=fun _=>Bool) true true (fun _ _=>true)
   (fun _ _=>Bool.rec (motive:=fun _=>Bool) (match targetA G r.tm r.o.op with|some t'=>apartA t t'|none=>false) true (bitF B r.i)) r.k)=_
  rw [effK_eq B t rs,bitF_eq]
  obtain ⟨i,o,tm,k,v⟩:=r
  cases k with
  |acts df h=>
   show Bool.rec (motive:=fun _=>Bool) false (effOk G B t rs) (Bool.rec (motive:=fun _=>Bool) (match targetA G tm o.op with|some t'=>apartA t t'|none=>false) true (Nat.testBit B i))=((Nat.testBit B i||(match targetA G tm o.op with|some t'=>apartA t t'|none=>false))&&effOk G B t rs)
   cases Nat.testBit B i with
   |true=>rfl
   |false=>cases (match targetA G tm o.op with|some t'=>apartA t t'|none=>false)<;>rfl
  |_=>rfl
def recBK (P:Program) (G:Nat) (m:Nat→Nat) (B:Nat) (as:List (Nat×Nat×AObj)) (st:List Stage) (h0:H) (rs:List Rec):Bool:=
 List.rec (motive:=fun _=>Bool) true (fun r _ ih=>Bool.rec (motive:=fun _=>Bool) false ih (Bool.rec (motive:=fun _=>Bool) (recK P G m as st h0 r) true (bitF B r.i))) rs
theorem recBK_eq {m:Nat→Nat} {Bs:Array Nat} (hm:m=fun i=>Bs.getD i 0) (B:Nat) (as:List (Nat×Nat×AObj)) (st:List Stage) (h0:H):∀ rs:List Rec,recBK P G m B as st h0 rs=recsB P G Bs B as st h0 rs
 |[]=>rfl
 |r::rs=>by
  show Bool.rec (motive:=fun _=>Bool) false (recBK P G m B as st h0 rs) (Bool.rec (motive:=fun _=>Bool) (recK P G m as st h0 r) true (bitF B r.i))=_
  rw [recBK_eq hm B as st h0 rs,bitF_eq]
  have e:=recsK_eq (P:=P) (G:=G) hm as st h0 [r]
  have e1:recsK P G m as st h0 [r]=Bool.rec (motive:=fun _=>Bool) false true (recK P G m as st h0 r):=rfl
  have e2:recK P G m as st h0 r=recsOk P G Bs as st h0 [r]:=by rw [←e,e1];cases recK P G m as st h0 r<;>rfl
  rw [e2]
  obtain ⟨i,o,tm,k,v⟩:=r
  cases k with
  |reads=>
   show Bool.rec (motive:=fun _=>Bool) false (recsB P G Bs B as st h0 rs) (Bool.rec (motive:=fun _=>Bool) ((noHeap o.op||walkOk P G Bs (Bs.getD i 0) as ⟨i,o,tm,.reads,v⟩ st h0)&&true) true (Nat.testBit B i))=
    ((Nat.testBit B i||(noHeap o.op||walkOk P G Bs (Bs.getD i 0) as ⟨i,o,tm,.reads,v⟩ st h0))&&recsB P G Bs B as st h0 rs)
   cases Nat.testBit B i with
   |true=>rfl
   |false=>cases (noHeap o.op||walkOk P G Bs (Bs.getD i 0) as ⟨i,o,tm,.reads,v⟩ st h0)<;>rfl
  |skip=>
   show Bool.rec (motive:=fun _=>Bool) false (recsB P G Bs B as st h0 rs) (Bool.rec (motive:=fun _=>Bool) true true (Nat.testBit B i))=(true&&recsB P G Bs B as st h0 rs)
   cases Nat.testBit B i<;>rfl
  |makes id ob=>
   show Bool.rec (motive:=fun _=>Bool) false (recsB P G Bs B as st h0 rs) (Bool.rec (motive:=fun _=>Bool) true true (Nat.testBit B i))=(true&&recsB P G Bs B as st h0 rs)
   cases Nat.testBit B i<;>rfl
  |acts df hh=>
   show Bool.rec (motive:=fun _=>Bool) false (recsB P G Bs B as st h0 rs) (Bool.rec (motive:=fun _=>Bool) true true (Nat.testBit B i))=(true&&recsB P G Bs B as st h0 rs)
   cases Nat.testBit B i<;>rfl
def lastK (P:Program) (G:Nat) (m:Nat→Nat) (B:Nat) (as:List (Nat×Nat×AObj)) (h0:H) (r:Rec) (rs:List Rec):Bool:=
 match r.k,targetA G r.tm r.o.op with
 | .acts _ _,some t=>
   (h0::(stagesOf rs []).map (·.h)).all (fun h=>(h.write G t.1 t.2.1 t.2.2).isSome)&&(effK G B t rs&&
     recBK P G m B as ((stagesOf rs []).map fun e=>⟨e.i,e.df,wroteA G t e.h⟩) (wroteA G t h0) rs)
 |_,_=>false
theorem lastK_eq {m:Nat→Nat} {Bs:Array Nat} (hm:m=fun i=>Bs.getD i 0) (B:Nat) (as:List (Nat×Nat×AObj)) (h0:H) (r:Rec) (rs:List Rec):lastK P G m B as h0 r rs=lastOk P G Bs B as h0 r rs:=by
 unfold lastK lastOk
 simp only [effK_eq,recBK_eq hm]
 rfl
def lastM (m:Nat→Nat) (s i:Nat):Nat:=Bool.rec (motive:=fun _=>Nat) (m i) (Nat.sub (Nat.pow 2 s) 1) (Nat.beq s i)
theorem lastM_eq {m:Nat→Nat} {Bs:Array Nat} (hm:m=fun i=>Bs.getD i 0) {s:Nat} (hs:s<Bs.size):lastM m s=fun i=>(Bs.setIfInBounds s (2^s-1)).getD i 0:=by
 funext i
 unfold lastM
 subst hm
 cases hb:Nat.beq s i with
 |true=>
  have:=Nat.eq_of_beq_eq_true hb
  subst this
  show 2^s-1=_
  simp [hs]
 |false=>
  have:s≠i:=fun e=>by subst e;rw [Nat.beq_refl] at hb;cases hb
  show Bs.getD i 0=_
  simp [this]
def drawSK (P:Program) (G:Nat) (ih:Task→Option (List Out)) (rd:Option Nat) (ops:Array Oper) (m:Nat→Nat) (s:Nat) (st:St):Option St:=
 Option.rec (motive:=fun _=>Option St) none
  (fun d=>List.rec (motive:=fun _=>Option St) none
    (fun r rs _=>Bool.rec (motive:=fun _=>Option St) none (some {tm:=d.tm,sz:=st.sz,df:=d.df,h:=withF (Nat.sub (Nat.pow 2 ops.size) 1) d.h d.as})
      (recsK P G m d.as (stagesOf d.rs []) {hp:=st.h.hp,nx:=st.h.nx+ops.size,mw:=st.h.mw} d.rs&&lastK P G m (m s) d.as {hp:=st.h.hp,nx:=st.h.nx+ops.size,mw:=st.h.mw} r rs)) d.rs)
  ((drOpsK P G ops (lastM m s) ops.toList 0).run ih rd st.sz st.h.nx {tm:=st.tm,df:=st.df,h:={hp:=st.h.hp,nx:=st.h.nx+ops.size,mw:=st.h.mw},as:=[],es:=[],rs:=[]})
theorem drawSK_eq (ih:Task→Option (List Out)) (rd:Option Nat) (ops:Array Oper) {m:Nat→Nat} (hm:m=fun i=>(Region.before ops).getD i 0) (hs:ops.size-1<(Region.before ops).size) (hok:(edgesOk ops.toList 0&&namesOk ops (Region.before ops) ops.toList 0)=true) (st:St):
 drawSK P G ih rd ops m (ops.size-1) st=runDrawS P G ih rd ops st:=by
 unfold drawSK runDrawS
 simp only [hok,cond_true]
 rw [drOpsK_eq ih rd st.sz ops (lastM_eq hm hs)]
 have em:m (ops.size-1)=(Region.before ops).getD (ops.size-1) 0:=by rw [hm]
 rw [em]
 cases drOps P G ih rd st.sz ops ((Region.before ops).setIfInBounds (ops.size-1) (2^(ops.size-1)-1)) st.h.nx ops.toList 0 {tm:=st.tm,df:=st.df,h:={hp:=st.h.hp,nx:=st.h.nx+ops.size,mw:=st.h.mw},as:=[],es:=[],rs:=[]} with
 |none=>rfl
 |some d=>
  obtain ⟨tm,df,h,as,es,rs⟩:=d
  cases rs with
  |nil=>rfl
  |cons r rs=>
   show Bool.rec (motive:=fun _=>Option St) none (some {tm:=tm,sz:=st.sz,df:=df,h:=withF (2^ops.size-1) h as})
    (recsK P G m as (stagesOf (r::rs) []) {hp:=st.h.hp,nx:=st.h.nx+ops.size,mw:=st.h.mw} (r::rs)&&lastK P G m ((Region.before ops).getD (ops.size-1) 0) as {hp:=st.h.hp,nx:=st.h.nx+ops.size,mw:=st.h.mw} r rs)=_
   rw [recsK_eq hm,lastK_eq hm,withF_eq]
   show _=bif (recsOk P G (Region.before ops) as (stagesOf (r::rs) []) {hp:=st.h.hp,nx:=st.h.nx+ops.size,mw:=st.h.mw} (r::rs)&&lastOk P G (Region.before ops) ((Region.before ops).getD (ops.size-1) 0) as {hp:=st.h.hp,nx:=st.h.nx+ops.size,mw:=st.h.mw} r rs) then
    (some {tm:=tm,sz:=st.sz,df:=df,h:=withA (2^ops.size-1) h as}:Option St) else none
   cases (recsOk P G (Region.before ops) as (stagesOf (r::rs) []) {hp:=st.h.hp,nx:=st.h.nx+ops.size,mw:=st.h.mw} (r::rs)&&lastOk P G (Region.before ops) ((Region.before ops).getD (ops.size-1) 0) as {hp:=st.h.hp,nx:=st.h.nx+ops.size,mw:=st.h.mw} r rs)<;>rfl
def drawMK (P:Program) (G:Nat) (ih:Task→Option (List Out)) (rd:Option Nat) (ops:Array Oper) (m:Nat→Nat) (st:St):Option St:=
 Bool.rec (motive:=fun _=>Option St) none
  (Option.rec (motive:=fun _=>Option St) (Bool.rec (motive:=fun _=>Option St) (drawSK P G ih rd ops m (ops.size-1) st) none (Nat.beq ops.size 0)) (fun s=>some s) (drawK P G ih rd ops m true st)) (namesF m ops (dstsF ops.toList 0) ops.toList 0)
def drawAK (P:Program) (G:Nat) (ih:Task→Option (List Out)) (rd:Option Nat) (ops:Array Oper) (st:St):Option St:=
 Option.rec (motive:=fun _=>Option St) none (fun M=>drawMK P G ih rd ops (fun i=>maskP M ops.size i) st) (packP ops.size ops.toList 0 0)
theorem drawAK_eq (ih:Task→Option (List Out)) (rd:Option Nat) (ops:Array Oper) (st:St):drawAK P G ih rd ops st=drawAF P G ih rd ops st:=by
 rw [drawAF_eq]
 unfold drawAK
 rcases pack_all ops with ⟨he,M,hp,hm⟩|⟨he,hp⟩
 ·rw [hp]
  show drawMK P G ih rd ops (fun i=>maskP M ops.size i) st=_
  generalize hmm:(fun i=>maskP M ops.size i)=m at hm
  unfold drawMK
  rw [namesF_eq hm]
  cases hn:namesOk ops (Region.before ops) ops.toList 0 with
  |false=>
   show none=_
   unfold runDrawA runDraw runDrawS
   simp only [he,hn,Bool.and_false,cond_false]
  |true=>
   show Option.rec (motive:=fun _=>Option St) (Bool.rec (motive:=fun _=>Option St) (drawSK P G ih rd ops m (ops.size-1) st) none (Nat.beq ops.size 0)) (fun s=>some s) (drawK P G ih rd ops m true st)=_
   have hok:(edgesOk ops.toList 0&&namesOk ops (Region.before ops) ops.toList 0)=true:=by rw [he,hn];rfl
   have hd:=drawF_eq (P:=P) (G:=G) ih rd ops st
   rw [hok] at hd
   rw [drawK_eq ih rd ops hm,hd]
   unfold runDrawA
   cases hr:runDraw P G ih rd ops st with
   |some s=>rfl
   |none=>
    show Bool.rec (motive:=fun _=>Option St) (drawSK P G ih rd ops m (ops.size-1) st) none (Nat.beq ops.size 0)=runDrawS P G ih rd ops st
    cases hz:Nat.beq ops.size 0 with
    |false=>
     have hpos:ops.size≠0:=fun h=>by rw [h] at hz;cases hz
     have hsz:(Region.before ops).size=ops.size:=by
      rw [before_eq,←Array.foldl_toList,(before_list ops.toList #[]).1];simp
     exact drawSK_eq ih rd ops hm (by rw [hsz];omega) hok st
    |true=>
     show none=_
     have h0:=Nat.eq_of_beq_eq_true hz
     have hl:ops.toList=[]:=by
      rw [←List.length_eq_zero_iff,Array.length_toList];exact h0
     unfold runDrawS
     simp only [hl]
     rfl
 ·rw [hp]
  show none=_
  unfold runDrawA runDraw runDrawS
  simp only [he,Bool.false_and,cond_false]
def regionH (P:Program) (G:Nat) (ih:Task→Option (List Out)) (rd:Option Nat) (st:St) (ops:Array Oper) (draw:Bool):Option (List Out):=
 Bool.rec (motive:=fun _=>Option (List Out)) (obindF ((regK P G ops ops.toList).run ih rd st.sz st.tm st.df st.h) normals)
  (Option.rec (motive:=fun _=>Option (List Out)) none (fun s=>some [.code .normal s]) (drawAK P G ih rd ops st)) draw
theorem regionH_eq (ih:Task→Option (List Out)) (rd:Option Nat) (st:St) (ops:Array Oper) (draw:Bool):regionH P G ih rd st ops draw=regionStep P G ih rd st ops draw:=by
 rw [←regionG_eq]
 unfold regionH regionG
 rw [regK_eq,runOpsF_eq,drawAK_eq]
def resultsF (P:Program) (tm:TV) (h:H):List ResultVar→Option (List Value)
 |[]=>some []
 | .tmp t::r=>match tm.get t,resultsF P tm h r with
   |some v,some l=>some (v::l)
   |_,_=>none
 | .cell a t::r=>match tm.get a,resultsF P tm h r with
   |some (.pointer (some ⟨i,k,none⟩)),some l=>((loadK P t).f h i k).map (· ::l)
   |_,_=>none
theorem resultsF_eq (tm:TV) (h:H):∀ l:List ResultVar,resultsF P tm h l=resultsA P tm h l
 |[]=>rfl
 | .tmp t::r=>by simp only [resultsF,resultsA,resultsF_eq tm h r];rfl
 | .cell a t::r=>by simp only [resultsF,resultsA,resultsF_eq tm h r,loadK_eq];rfl
def leaveF (P:Program) (G:Nat) (ih:Task→Option (List Out)) (fn:Func) (tm:TV):List Deferred→H→Option (List (Value×H))
 |[],h=>(resultsF P tm h fn.results.toList).map fun l=>[(tupleOf l,h)]
 |d::ds,h=>
  match d.target with
  | .collected b=>match h.hp.get b with
    |some (.defs true)=>bif Nat.ble G b then leaveF P G ih fn tm ds (h.put b (some (.defs false))) else none
    |_=>none
  | .fn (.func g) captured=>
    match fnF P g with
    |some gn=>match gn.body with
     |some _=>obind (ih (.call g (d.args.toList++captured.toList) h)) fun
       | .call _ h1=>leaveF P G ih fn tm ds h1
       | .code _ _=>none
     |none=>none
    |none=>none
  |_=>none
theorem leaveF_eq (ih:Task→Option (List Out)) (fn:Func) (tm:TV):∀ (l:List Deferred) (h:H),leaveF P G ih fn tm l h=leaveA P G ih fn tm l h
 |[],h=>by simp only [leaveF,leaveA,resultsF_eq]
 |d::ds,h=>by
  have e:leaveF P G ih fn tm ds=leaveA P G ih fn tm ds:=funext (leaveF_eq ih fn tm ds)
  simp only [leaveF,leaveA,fnF_eq,e]
  rfl
def leaveOfF (P:Program) (G:Nat) (ih:Task→Option (List Out)) (fn:Func):Out→Option (List (Value×H))
 | .code .normal st=>leaveF P G ih fn st.tm st.df st.h
 | .code .ret st=>leaveF P G ih fn st.tm st.df st.h
 |_=>none
theorem leaveOfF_eq (ih:Task→Option (List Out)) (fn:Func):leaveOfF P G ih fn=leaveOf P G ih fn:=by
 funext o
 cases o with
 |code e st=>cases e<;>simp only [leaveOfF,leaveOf,leaveF_eq]
 |call v h=>rfl
def callStepF (P:Program) (G:Nat) (ih:Task→Option (List Out)) (f:FuncId) (args:List Value) (h:H):Option (List Out):=
 match fnF P f with
 |some fn=>match fn.body with
  |some c=>
   bif Nat.ble args.length fn.ntmps then
    match obindF (ih (.code c none {tm:=args0 args 0 .e,sz:=fn.ntmps,df:=[],h:={h with mw:=far}})) (leaveOfF P G ih fn) with
    |some l=>merge h l
    |none=>none
   else none
  |none=>none
 |none=>none
theorem callStepF_eq (ih:Task→Option (List Out)) (f:FuncId) (args:List Value) (h:H):callStepF P G ih f args h=callStep P G ih f args h:=by
 unfold callStepF callStep
 simp only [fnF_eq,obindF_eq,leaveOfF_eq]
 try rfl
def codeH (c:Code):CF:=
 Code.rec (motive:=fun _=>CF)
  (skip:=fun _ _ _ _ st=>some [.code .normal st]) (region:=fun _ ops draw P G ih rd st=>regionH P G ih rd st ops draw) (seq:=fun a b _ _ _ _ ih rd st=>obindF (ih (.code a rd st)) (seqStep ih b rd))
  (cond:=fun c a b _ _ _ G ih rd st=>condStep G ih rd st c a b) (block:=fun id body _ _ _ ih rd st=>obindF (ih (.code body rd st)) (blockStep id)) (loop:=fun body _ _ _ ih rd st=>obindF (ih (.code body rd st)) (seqStep ih (.loop body) rd))
  (rangeFunc:=fun f params assign body _ _ P G ih rd st=>rangeStep P G ih rd st f params assign body) (exit:=fun id _ _ _ _ st=>some [.code (.exit id) st]) (scope:=fun body _ _ _ ih rd st=>ih (.code body rd st))
  (label:=fun _ _ _ _ _ st=>some [.code .normal st]) (goto:=fun _ _ _ _ _ _=>none) (ret:=fun _ _ _ _ st=>some [.code .ret st]) (refuse:=fun _ _ _ _ _ _=>none) c
theorem codeH_eq (ih:Task→Option (List Out)) (rd:Option Nat) (st:St) (c:Code):codeH c P G ih rd st=codeStep P G ih rd st c:=by
 cases c with
 |region id ops draw=>exact regionH_eq _ _ _ _ _
 |seq a b=>exact obindF_eq _ _
 |block id b=>exact obindF_eq _ _
 |loop b=>exact obindF_eq _ _
 |_=>rfl
def evH (n:Nat):Program→Nat→Task→Option (List Out):=
 Nat.rec (motive:=fun _=>Program→Nat→Task→Option (List Out)) (fun _ _ _=>none)
  (fun _ ih P G t=>Task.rec (motive:=fun _=>Program→Nat→(Task→Option (List Out))→Option (List Out)) (code:=fun c rd st P G ih=>codeH c P G ih rd st) (call:=fun f args h P G ih=>callStepF P G ih f args h) t P G (ih P G)) n
theorem evH_eq:∀ (n:Nat) (t:Task),evH n P G t=ev P G n t
 |0,t=>rfl
 |n+1,t=>by
  have e:evH n P G=ev P G n:=funext (evH_eq n)
  cases t with
  |code c rd st=>
   show codeH c P G (evH n P G) rd st=codeStep P G (ev P G n) rd st c
   rw [e];exact codeH_eq _ _ _ _
  |call f args h=>
   show callStepF P G (evH n P G) f args h=callStep P G (ev P G n) f args h
   rw [e];exact callStepF_eq _ _ _ _
def evIsH (P:Program) (G n:Nat) (f:FuncId) (hp:TH) (v:Value):Bool:=
 Option.rec (motive:=fun _=>Bool) false (fun outs=>outs.all (outIs v)&&af 8 v) (evH n P G (.call f [] {hp:=hp,nx:=G,mw:=far}))
theorem evIsH_eq (n:Nat) (f:FuncId) (hp:TH) (v:Value):evIsH P G n f hp v=evIs P G n f hp v:=by
 unfold evIsH evIs
 rw [evH_eq]
 cases ev P G n (.call f [] {hp:=hp,nx:=G,mw:=far})<;>rfl
end Go.CE
namespace Go.CE
open Go Go.RowKit
variable {P:Program} {G:Nat}
structure MemoE where
 f:FuncId
 args:List Value
 glob:List (Nat×List Value)
 val:Value
def baseH:List (Nat×List Value)→TH
 |[]=>TH.e
 |(g,cs)::r=>(baseH r).set g (some (.cells cs))
def globHit (hp:TH) (g:Nat) (cs:List Value):Bool:=
 match hp.get g with
 |some (.cells cs')=>veqL (veq 8) cs cs'
 |_=>false
def globsHit (hp:TH):List (Nat×List Value)→Bool
 |[]=>true
 |(g,cs)::r=>globHit hp g cs&&globsHit hp r
def MemoE.hit (e:MemoE) (f:FuncId) (args:List Value) (h:H):Bool:=Nat.beq e.f f&&(veqL (veq 8) e.args args&&globsHit h.hp e.glob)
def memoGet:List MemoE→FuncId→List Value→H→Option Value
 |[],_,_,_=>none
 |e::r,f,args,h=>bif e.hit f args h then some e.val else memoGet r f args h
def MemoE.closed (G:Nat) (e:MemoE):Bool:=e.args.all (af 8)&&(e.glob.all (fun p=>Nat.blt p.1 G&&p.2.all (af 8))&&af 8 e.val)
def MemoOk [Letters] (P:Program) (G:Nat) (e:MemoE):Prop:=
 e.closed G=true∧∃ outs,SndF P G e.f e.args {hp:=baseH e.glob,nx:=G,mw:=far} outs∧outs.all (outIs e.val)=true
def evM (P:Program) (G:Nat) (M:List MemoE):Nat→Task→Option (List Out)
 |0,_=>none
 |n+1,.call f args h=>match memoGet M f args h with
  |some v=>some [.call v h]
  |none=>callStep P G (evM P G M n) f args h
 |n+1,.code c rd st=>codeStep P G (evM P G M n) rd st c
theorem veqL8:∀ (l m:List Value),veqL (veq 8) l m=true→l=m:=by
 intro l
 induction l with
 |nil=>intro m h;cases m with
  |nil=>rfl
  |cons b m=>cases h
 |cons a l ih=>intro m h;cases m with
  |nil=>cases h
  |cons b m=>
   have h':(veq 8 a b&&veqL (veq 8) l m)=true:=h
   simp only [Bool.and_eq_true] at h'
   rw [veq_eq 8 a b h'.1,ih m h'.2]
theorem baseH_get (hp:TH):∀ (l:List (Nat×List Value)),globsHit hp l=true→∀ i o,(baseH l).get i=some o→hp.get i=some o∧∃ p∈l,p.1=i∧o= .cells p.2
 |[],_,i,o,h=>by rw [show baseH []=TH.e from rfl,TH.get_e] at h;cases h
 |(g,cs)::r,hh,i,o,h=>by
  have hh':(globHit hp g cs&&globsHit hp r)=true:=hh
  simp only [Bool.and_eq_true] at hh'
  rw [show baseH ((g,cs)::r)=(baseH r).set g (some (.cells cs)) from rfl,TH.get_set] at h
  by_cases e:i=g
  ·subst e
   rw [if_pos rfl] at h
   cases h
   have h1:=hh'.1
   unfold globHit at h1
   split at h1
   ·rename_i cs' he
    have:=veqL8 _ _ h1
    subst this
    exact ⟨he,_,List.mem_cons_self,rfl,rfl⟩
   ·cases h1
  ·rw [if_neg e] at h
   obtain ⟨a,p,b,c⟩:=baseH_get hp r hh'.2 i o h
   exact ⟨a,p,List.mem_cons_of_mem _ b,c⟩
theorem memo_snd [Letters] {e:MemoE} (he:MemoOk P G e) {f:FuncId} {args:List Value} {h:H} (hh:e.hit f args h=true):SndF P G f args h [.call e.val h]:=by
 obtain ⟨hc,outs,hs,ho⟩:=he
 unfold MemoE.hit at hh
 unfold MemoE.closed at hc
 simp only [Bool.and_eq_true] at hh hc
 obtain ⟨hf,ha,hg⟩:=hh
 obtain ⟨c1,c2,c3⟩:=hc
 have hf':e.f=f:=Nat.eq_of_beq_eq_true hf
 have ha':e.args=args:=veqL8 _ _ ha
 subst hf' ha'
 intro kind args' cs w ρ hr hv hk
 have hcl:∀ i o,(baseH e.glob).get i=some o→i<G∧h.hp.get i=some o∧∃ cs,o= .cells cs∧∀ x∈cs,af 8 x=true:=by
  intro i o hi
  obtain ⟨a,p,b,c,d⟩:=baseH_get h.hp e.glob hg i o hi
  have:=List.all_eq_true.1 c2 p b
  simp only [Bool.and_eq_true] at this
  have hlt:p.1<G:=Nat.le_of_ble_eq_true this.1
  exact ⟨by rw [←c];exact hlt,a,p.2,d,fun x hx=>List.all_eq_true.1 this.2 x hx⟩
 have hr0:HR G {hp:=baseH e.glob,nx:=G,mw:=far} ρ w:=by
  refine ⟨fun i o hi=>?_,fun i j hi hj he=>?_,hr.glob,Nat.le_refl _⟩
  ·obtain ⟨hlt,hi',cs0,rfl,hcs⟩:=hcl i o hi
   obtain ⟨hin,ob,hob,hobj⟩:=hr.obj i _ hi'
   refine ⟨⟨hlt,hin.2⟩,ob,hob,?_⟩
   cases hobj with
   |cells _ c e fz hz hl hv hfz=>
    refine .cells _ c e fz hz hl (fun j x hx=>?_) hfz
    obtain ⟨y,y1,y2⟩:=hv j x hx
    have hx8:=hcs x (List.mem_of_getElem? hx)
    have:=af_eq 8 x y hx8 y2
    subst this
    exact ⟨y,y1,af_self 8 y hx8⟩
  ·refine hr.inj i j ?_ ?_ he
   ·cases hq:(baseH e.glob).get i with
    |none=>exact absurd hq hi
    |some o=>rw [(hcl i o hq).2.1];exact fun h=>by cases h
   ·cases hq:(baseH e.glob).get j with
    |none=>exact absurd hq hj
    |some o=>rw [(hcl j o hq).2.1];exact fun h=>by cases h
 have hv0:V2 G ρ e.args args'.toList:=by
  refine ⟨hv.1,fun j x y hx hy=>?_⟩
  have hx8:=List.all_eq_true.1 c1 x (List.mem_of_getElem? hx)
  have:=af_eq 8 x y hx8 (hv.2 j x y hx hy)
  subst this
  exact af_self 8 y hx8
 obtain ⟨v0,h0,hmem,v',ρ',w',fr,g1,g2,g3,g4,g5⟩:=hs kind args' cs w ρ hr0 hv0 hk
 have hx:=List.all_eq_true.1 ho _ hmem
 have hxv:e.val=v0:=veq_eq 8 e.val v0 hx
 subst hxv
 have hvv:=af_eq 8 _ v' c3 g1
 subst hvv
 have hblock:∀ b,b<w.heap.size→w'.heap[b]? =w.heap[b]? :=fun b hb=>g3.block b hb (fun i hi hl=>by
  cases hq:(baseH e.glob).get i with
  |none=>exact absurd hq hl
  |some o=>have:=(hcl i o hq).1;omega)
 refine ⟨e.val,h,List.mem_cons_self,e.val,ρ,w',fr,af_self 8 _ c3,⟨fun i o hi=>?_,hr.inj,hr.glob,hr.bound⟩,⟨Nat.le_refl _,Agree.refl _ _,g3.os,g3.tape,g3.output,g3.size,fun b hb _=>hblock b hb,fun i hi hn=> .inl ⟨i,hi,hn,rfl⟩,Nat.le_refl _,fun _ _ _=>rfl,fun _ _=>rfl,fun _ _=>rfl⟩,g4,g5⟩
 obtain ⟨hin,ob,hob,hobj⟩:=hr.obj i o hi
 refine ⟨hin,ob,?_,hobj⟩
 rw [hblock _ ?_]
 ·exact hob
 ·exact (Array.getElem?_eq_some_iff.1 hob).1
theorem memoGet_snd [Letters] {M:List MemoE} (hM:∀ e∈M,MemoOk P G e) {f:FuncId} {args:List Value} {h:H} {v:Value} (hv:memoGet M f args h=some v):SndF P G f args h [.call v h]:=by
 induction M with
 |nil=>cases hv
 |cons e r ih=>
  have hv':(bif e.hit f args h then some e.val else memoGet r f args h)=some v:=hv
  cases hb:e.hit f args h with
  |true=>
   rw [hb] at hv'
   cases hv'
   exact memo_snd (hM e List.mem_cons_self) hb
  |false=>
   rw [hb] at hv'
   exact ih (fun e he=>hM e (List.mem_cons_of_mem _ he)) hv'
theorem evM_all [Letters] (hm:P.follows .mixedOrders=true) (hN:NoCount P) {M:List MemoE} (hM:∀ e∈M,MemoOk P G e):∀ n,IH P G (evM P G M n):=by
 intro n
 induction n with
 |zero=>intro t outs h;cases h
 |succ n ih=>
  intro t outs h
  cases t with
  |code c rd st=>exact codeStep_ok hN ih (drawA_ok hm hN ih) h
  |call f args h0=>
   have h':(match memoGet M f args h0 with|some v=>some [.call v h0]|none=>callStep P G (evM P G M n) f args h0)=some outs:=h
   cases hg:memoGet M f args h0 with
   |some v=>
    rw [hg] at h'
    cases h'
    exact memoGet_snd hM hg
   |none=>
    rw [hg] at h'
    exact callStep_ok hN ih h'
def evMH (M:List MemoE) (n:Nat):Program→Nat→Task→Option (List Out):=
 Nat.rec (motive:=fun _=>Program→Nat→Task→Option (List Out)) (fun _ _ _=>none)
  (fun _ ih P G t=>Task.rec (motive:=fun _=>Program→Nat→(Task→Option (List Out))→Option (List Out)) (code:=fun c rd st P G ih=>codeH c P G ih rd st)
    (call:=fun f args h P G ih=>Option.rec (motive:=fun _=>Option (List Out)) (callStepF P G ih f args h) (fun v=>some [.call v h]) (memoGet M f args h)) t P G (ih P G)) n
theorem evMH_eq (M:List MemoE):∀ (n:Nat) (t:Task),evMH M n P G t=evM P G M n t
 |0,t=>rfl
 |n+1,t=>by
  have e:evMH M n P G=evM P G M n:=funext (evMH_eq M n)
  cases t with
  |code c rd st=>
   show codeH c P G (evMH M n P G) rd st=codeStep P G (evM P G M n) rd st c
   rw [e];exact codeH_eq _ _ _ _
  |call f args h=>
   show Option.rec (motive:=fun _=>Option (List Out)) (callStepF P G (evMH M n P G) f args h) (fun v=>some [.call v h]) (memoGet M f args h)=(match memoGet M f args h with|some v=>some [.call v h]|none=>callStep P G (evM P G M n) f args h)
   rw [e,callStepF_eq]
   cases memoGet M f args h<;>rfl
def MemoE.says (P:Program) (G n:Nat) (M:List MemoE) (e:MemoE):Bool:=
 Option.rec (motive:=fun _=>Bool) false (fun outs=>outs.all (outIs e.val)&&e.closed G) (evMH M n P G (.call e.f e.args {hp:=baseH e.glob,nx:=G,mw:=far}))
theorem memo_ok [Letters] (hm:P.follows .mixedOrders=true) (hN:NoCount P) {M:List MemoE} (hM:∀ e∈M,MemoOk P G e) {n:Nat} {e:MemoE} (h:e.says P G n M=true):MemoOk P G e:=by
 unfold MemoE.says at h
 rw [evMH_eq] at h
 cases hev:evM P G M n (.call e.f e.args {hp:=baseH e.glob,nx:=G,mw:=far}) with
 |none=>rw [hev] at h;cases h
 |some outs=>
  rw [hev] at h
  have h':(outs.all (outIs e.val)&&e.closed G)=true:=h
  simp only [Bool.and_eq_true] at h'
  exact ⟨h'.2,outs,evM_all hm hN hM n _ _ hev,h'.1⟩
theorem v2_self [Letters] {n:Nat} {ρ:Ren} {l:List Value} (h:l.all (af 8)=true):V2 n ρ l l:=by
 refine ⟨rfl,fun j x y hx hy=>?_⟩
 rw [hx] at hy
 cases hy
 exact af_self 8 x (List.all_eq_true.1 h x (List.mem_of_getElem? hx))
theorem calls_memo [Letters] {f:FuncId} {as:List Value} {gs:List (Nat×List Value)} {v:Value} (he:MemoOk P G {f:=f,args:=as,glob:=gs,val:=v}) {w:World} (hl:Lies (baseH gs) G w):
 Calls P f as.toArray w fun e w'=>e= .returned v∧Quiet w w':=by
 intro cs
 obtain ⟨hc,outs,hs,ho⟩:=he
 unfold MemoE.closed at hc
 simp only [Bool.and_eq_true] at hc
 have h2:af 8 v=true:=hc.2.2
 obtain ⟨hno,hg⟩:=hl
 let ρ:Ren:=fun i=>(i,0,match w.heap[i]? with|some (.cells c _ _)=>c.size|_=>0)
 have hr:HR G {hp:=baseH gs,nx:=G,mw:=far} ρ w:=by
  refine ⟨fun i o hi=>?_,fun i j _ _ e=>e,fun g _=>⟨rfl,rfl⟩,Nat.le_refl _⟩
  have hi':(baseH gs).get i=some o:=hi
  obtain ⟨cs',c,e,fz,rfl,hob,hlen,hfz,hcell⟩:=hg i o hi'
  have hz:(ρ i).2.2=c.size:=by show (match w.heap[i]? with|some (.cells c _ _)=>c.size|_=>0)=c.size;rw [hob]
  refine ⟨⟨?_,Nat.zero_le _⟩,_,hob,.cells _ _ _ _ hz.symm ?_ ?_ hfz⟩
  ·rcases Nat.lt_or_ge i G with hlt|hge
   ·exact hlt
   ·rw [hno i hge] at hi';cases hi'
  ·show 0+cs'.length≤c.size;omega
  ·intro j x hx
   obtain ⟨hx1,hx2⟩:=hcell j x hx
   exact ⟨x,by show c[0+j]? =some x;rw [Nat.zero_add];exact hx2,af_self 8 x hx1⟩
 obtain ⟨x,h',hmem,v',ρ',w',fr,g1,g2,g3,g4,g5⟩:=hs .normal as.toArray cs w ρ hr (v2_self hc.1) (.inl rfl)
 have hx:=List.all_eq_true.1 ho _ hmem
 have hxv:v=x:=veq_eq 8 v x hx
 subst hxv
 have hvv:=af_eq 8 v v' h2 g1
 subst hvv
 obtain ⟨m1,m2,m3,m4,fn,m5,m6⟩:=g5
 refine ⟨.returned v',w',fr,⟨rfl,g3.os,g3.tape,g3.output,g3.size,fun b hb=>g3.block b hb (fun i hi hl=>?_)⟩,g4,m4,m1,m2,m3,fn,by rw [m4];exact m5,m6⟩
 exact absurd (hno i hi) hl
instance noLetters:Letters:=⟨fun _=> .nilIface,fun _=>rfl⟩
end Go.CE
