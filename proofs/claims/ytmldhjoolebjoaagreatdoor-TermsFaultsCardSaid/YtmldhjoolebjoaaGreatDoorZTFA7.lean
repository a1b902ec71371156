/-
  The texts CeF of this claim, one behind the other.
-/
import Derived.Test.YtmldhjoolebjoaaGreatDoorZTFA6
noncomputable section
namespace Go.CE
open Go Go.RowKit
variable {P:Program} {G:Nat}
def rV (m i:Nat):Bool:=Nat.beq (Nat.mod (Nat.div m (Nat.pow 2 i)) 2) 1
theorem mW (m i:Nat):rV m i=Nat.testBit m i:=by
 rw [Nat.testBit_eq_decide_div_mod_eq,Bool.eq_iff_iff,decide_eq_true_iff]
 show (Nat.beq (m/2^i%2) 1=true)↔_
 rw [Nat.beq_eq]
def qD (M w i:Nat):Nat:=Nat.mod (Nat.div M (Nat.pow 2 (Nat.mul w i))) (Nat.pow 2 w)
def xC (M w i:Nat) (l:List Edge):Nat→Option Nat:=
 List.rec (motive:=fun _=>Nat→Option Nat) (fun s=>some s)
  (fun e _ ih s=>Bool.rec (motive:=fun _=>Option Nat) (ih s) (Bool.rec (motive:=fun _=>Option Nat) none (ih (Nat.lor (Nat.lor s (Nat.pow 2 e.on)) (qD M w e.on))) (Nat.blt e.on i)) (Region.binds .any e)) l
def Em (w:Nat) (l:List Oper):Nat→Nat→Option Nat:=
 List.rec (motive:=fun _=>Nat→Nat→Option Nat) (fun _ M=>some M)
  (fun o _ ih i M=>Option.rec (motive:=fun _=>Option Nat) none (fun B=>ih (Nat.succ i) (Nat.add M (Nat.mul B (Nat.pow 2 (Nat.mul w i))))) (xC M w i o.after.toList 0)) l
theorem Aq {M w i:Nat} {acc:Array Nat} (hm:∀ k,k<i→qD M w k=acc.getD k 0) (hw:i≤w) (hb:∀ k,k<i→acc.getD k 0<2^w):∀ (l:List Edge) (s:Nat),s<2^w→
 ((l.all (fun e=> !Region.binds .any e||Nat.blt e.on i))=true∧xC M w i l s=some (l.foldl (fun s e=>if Region.binds .any e then s|||2^e.on|||acc.getD e.on 0 else s) s)∧
   l.foldl (fun s e=>if Region.binds .any e then s|||2^e.on|||acc.getD e.on 0 else s) s<2^w)∨
 ((l.all (fun e=> !Region.binds .any e||Nat.blt e.on i))=false∧xC M w i l s=none)
 |[],s,hs=> .inl ⟨rfl,rfl,hs⟩
 |e::l,s,hs=>by
  have unf:xC M w i (e::l) s=Bool.rec (motive:=fun _=>Option Nat) (xC M w i l s) (Bool.rec (motive:=fun _=>Option Nat) none (xC M w i l (s|||2^e.on|||qD M w e.on)) (Nat.blt e.on i)) (Region.binds .any e):=rfl
  rw [unf,List.all_cons,List.foldl_cons]
  cases hbi:Region.binds .any e with
  |false=>
   simp only [Bool.not_false,Bool.true_or,Bool.true_and,Bool.false_eq_true,if_false]
   exact Aq hm hw hb l s hs
  |true=>
   cases hlt:Nat.blt e.on i with
   |false=>exact .inr ⟨rfl,rfl⟩
   |true=>
    have hlt':e.on<i:=Nat.le_of_ble_eq_true hlt
    simp only [Bool.not_true,Bool.or_true,Bool.true_and,if_true]
    rw [hm _ hlt']
    exact Aq hm hw hb l _ (Nat.or_lt_two_pow (Nat.or_lt_two_pow hs (Nat.pow_lt_pow_right (by omega) (by omega))) (hb _ hlt'))
theorem PO {M w i k:Nat} (h:M<2^(w*i)) (hk:i≤k):qD M w k=0:=by
 show M/2^(w*k)%2^w=0
 have:2^(w*i)≤2^(w*k):=Nat.pow_le_pow_right (by omega) (Nat.mul_le_mul_left w hk)
 rw [Nat.div_eq_of_lt (by omega),Nat.zero_mod]
theorem Uv {M w i B:Nat} (h:M<2^(w*i)) (hB:B<2^w):(∀ k,k<i→qD (M+B*2^(w*i)) w k=qD M w k)∧qD (M+B*2^(w*i)) w i=B∧M+B*2^(w*i)<2^(w*(i+1)):=by
 refine ⟨fun k hk=>?_,?_,?_⟩
 ·show (M+B*2^(w*i))/2^(w*k)%2^w=M/2^(w*k)%2^w
  obtain ⟨d,rfl⟩:∃ d,i=k+(d+1):=⟨i-k-1,by omega⟩
  have e:B*2^(w*(k+(d+1)))=(B*2^(w*d)*2^w)*2^(w*k):=by
   rw [Nat.mul_add w k,Nat.pow_add,Nat.mul_add w d,Nat.pow_add,Nat.mul_one]
   simp only [Nat.mul_comm,Nat.mul_left_comm]
  rw [e,Nat.add_mul_div_right _ _ (Nat.two_pow_pos _),Nat.add_mul_mod_self_right]
 ·show (M+B*2^(w*i))/2^(w*i)%2^w=B
  rw [Nat.add_mul_div_right _ _ (Nat.two_pow_pos _),Nat.div_eq_of_lt h,Nat.zero_add,Nat.mod_eq_of_lt hB]
 ·have e:2^(w*(i+1))=2^w*2^(w*i):=by rw [Nat.mul_add,Nat.mul_one,Nat.pow_add,Nat.mul_comm]
  rw [e]
  have h2:(B+1)*2^(w*i)≤2^w*2^(w*i):=Nat.mul_le_mul_right _ hB
  rw [Nat.add_mul,Nat.one_mul] at h2
  omega
theorem Mr {w:Nat}:∀ (l:List Oper) (i M:Nat) (acc:Array Nat),acc.size=i→i+l.length≤w→(∀ k,k<i→qD M w k=acc.getD k 0)→(∀ k,k<i→acc.getD k 0<2^w)→M<2^(w*i)→
 (eH l i=true∧∃ M',Em w l i M=some M'∧∀ k,qD M' w k=(l.foldl (fun acc o=>acc.push (jd acc o)) acc).getD k 0)∨(eH l i=false∧Em w l i M=none)
 |[],i,M,acc,hs,hw,hm,hb,hM=>by
  refine .inl ⟨rfl,M,rfl,fun k=>?_⟩
  by_cases hk:k<i
  ·exact hm k hk
  ·rw [PO hM (by omega),List.foldl_nil]
   simp [Array.getD,show ¬k<acc.size by omega]
 |o::l,i,M,acc,hs,hw,hm,hb,hM=>by
  rw [List.length_cons] at hw
  have unf:Em w (o::l) i M=Option.rec (motive:=fun _=>Option Nat) none (fun B=>Em w l (i+1) (M+B*2^(w*i))) (xC M w i o.after.toList 0):=rfl
  have he:eH (o::l) i=(o.after.toList.all (fun e=> !Region.binds .any e||Nat.blt e.on i)&&eH l (i+1)):=rfl
  rw [unf,he]
  rcases Aq hm (by omega) hb o.after.toList 0 (Nat.two_pow_pos _) with ⟨h1,h2,h3⟩|⟨h1,h2⟩
  ·rw [h1,h2,Bool.true_and]
   have em:o.after.toList.foldl (fun s e=>if Region.binds .any e then s|||2^e.on|||acc.getD e.on 0 else s) 0=jd acc o:=by
    unfold jd;rw [Array.foldl_toList]
   rw [em] at h3 ⊢
   obtain ⟨a1,a2,a3⟩:=Uv (B:=jd acc o) hM h3
   rw [List.foldl_cons]
   have hg:∀ k,k<i+1→(acc.push (jd acc o)).getD k 0=if k<i then acc.getD k 0 else jd acc o:=by
    intro k hk
    by_cases h:k<i
    ·rw [if_pos h];simp [Array.getElem?_push,show k≠acc.size by omega]
    ·rw [if_neg h];have:k=acc.size:=by omega
     subst this;simp
   refine Mr l (i+1) _ (acc.push (jd acc o)) (by simp [hs]) (by omega) (fun k hk=>?_) (fun k hk=>?_) a3
   ·rw [hg k hk]
    by_cases h:k<i
    ·rw [if_pos h,←hm k h];exact a1 k h
    ·rw [if_neg h];have:k=i:=by omega
     subst this;exact a2
   ·rw [hg k hk]
    by_cases h:k<i
    ·rw [if_pos h];exact hb k h
    ·rw [if_neg h];exact h3
  ·rw [h1,h2];exact .inr ⟨rfl,rfl⟩
theorem XK (ops:Array Oper):(eH ops.toList 0=true∧∃ M,Em ops.size ops.toList 0 0=some M∧(fun i=>qD M ops.size i)=fun i=>(Region.before ops).getD i 0)∨(eH ops.toList 0=false∧Em ops.size ops.toList 0 0=none):=by
 rcases Mr (w:=ops.size) ops.toList 0 0 #[] rfl (by simp) (fun k hk=>by omega) (fun k hk=>by omega) (Nat.two_pow_pos _) with ⟨h1,M,h2,h3⟩|h
 ·refine .inl ⟨h1,M,h2,?_⟩
  funext k
  rw [h3 k,Ae,←Array.foldl_toList]
 ·exact .inr h
def Jl (m:Nat→Nat) (i j:Nat):Bool:=Bool.rec (motive:=fun _=>Bool) (Bool.rec (motive:=fun _=>Bool) (rV (m i) j) (rV (m j) i) (Nat.blt i j)) true (Nat.beq i j)
theorem Uw {m:Nat→Nat} {Bs:Array Nat} (hm:m=fun i=>Bs.getD i 0) (i j:Nat):Jl m i j=bound Bs i j:=by
 subst hm
 unfold Jl bound
 rw [mW,mW]
 cases Nat.beq i j with
 |true=>rfl
 |false=>cases Nat.blt i j<;>rfl
def uH (l:List Oper):Nat→List (Nat×Nat):=
 List.rec (motive:=fun _=>Nat→List (Nat×Nat)) (fun _=>[]) (fun o _ ih i=>Option.rec (motive:=fun _=>List (Nat×Nat)) (ih (Nat.succ i)) (fun d=>(d,i)::ih (Nat.succ i)) o.dst) l
def uI (m:Nat→Nat) (t j:Nat) (l:List (Nat×Nat)):Bool:=
 List.rec (motive:=fun _=>Bool) true (fun p _ ih=>Bool.rec (motive:=fun _=>Bool) ih (Bool.rec (motive:=fun _=>Bool) false ih (Jl m p.2 j)) (Nat.beq p.1 t)) l
theorem BA {m:Nat→Nat} {Bs:Array Nat} (hm:m=fun i=>Bs.getD i 0) (t j:Nat):∀ (l:List Oper) (k:Nat),uI m t j (uH l k)=bM.iH Bs t j l k
 |[],_=>rfl
 |o::l,k=>by
  have ih:=BA hm t j l (k+1)
  have e1:uH (o::l) k=Option.rec (motive:=fun _=>List (Nat×Nat)) (uH l (k+1)) (fun d=>(d,k)::uH l (k+1)) o.dst:=rfl
  have e2:bM.iH Bs t j (o::l) k=((match o.dst with|some d=> !(Nat.beq d t)||bound Bs k j|none=>true)&&bM.iH Bs t j l (k+1)):=rfl
  rw [e1,e2]
  cases o.dst with
  |none=>rw [Bool.true_and];exact ih
  |some d=>
   show Bool.rec (motive:=fun _=>Bool) (uI m t j (uH l (k+1))) (Bool.rec (motive:=fun _=>Bool) false (uI m t j (uH l (k+1))) (Jl m k j)) (Nat.beq d t)=((!(Nat.beq d t)||bound Bs k j)&&bM.iH Bs t j l (k+1))
   rw [ih,Uw hm]
   cases Nat.beq d t with
   |false=>rfl
   |true=>cases bound Bs k j<;>rfl
def Jm (m:Nat→Nat) (ops:Array Oper) (ds:List (Nat×Nat)) (l:List Oper):Nat→Bool:=
 List.rec (motive:=fun _=>Nat→Bool) (fun _=>true)
  (fun o _ ih j=>Bool.rec (motive:=fun _=>Bool) false (ih (Nat.succ j)) (List.rec (motive:=fun _=>Bool) true (fun t _ ih2=>Bool.rec (motive:=fun _=>Bool) false ih2 (uI m t j ds)) (jH ops o))) l
theorem Rz {α:Type} (f:α→Bool):∀ l:List α,List.rec (motive:=fun _=>Bool) true (fun t _ ih2=>Bool.rec (motive:=fun _=>Bool) false ih2 (f t)) l=l.all f
 |[]=>rfl
 |a::l=>by
  show Bool.rec (motive:=fun _=>Bool) false (List.rec (motive:=fun _=>Bool) true (fun t _ ih2=>Bool.rec (motive:=fun _=>Bool) false ih2 (f t)) l) (f a)=_
  rw [Rz f l,List.all_cons]
  cases f a<;>rfl
theorem GV {m:Nat→Nat} {Bs:Array Nat} (hm:m=fun i=>Bs.getD i 0) (ops:Array Oper):∀ (l:List Oper) (j:Nat),Jm m ops (uH ops.toList 0) l j=bM ops Bs l j
 |[],_=>rfl
 |o::l,j=>by
  have ih:=GV hm ops l (j+1)
  have e1:Jm m ops (uH ops.toList 0) (o::l) j=Bool.rec (motive:=fun _=>Bool) false (Jm m ops (uH ops.toList 0) l (j+1)) (List.rec (motive:=fun _=>Bool) true (fun t _ ih2=>Bool.rec (motive:=fun _=>Bool) false ih2 (uI m t j (uH ops.toList 0))) (jH ops o)):=rfl
  have e2:bM ops Bs (o::l) j=((jH ops o).all (fun t=>bM.iH Bs t j ops.toList 0)&&bM ops Bs l (j+1)):=rfl
  rw [e1,e2,ih,Rz]
  simp only [BA hm]
  cases (jH ops o).all (fun t=>bM.iH Bs t j ops.toList 0)<;>rfl
end Go.CE
namespace Go.CE
open Go Go.RowKit
variable {P:Program} {G:Nat}
structure Ux where
 f:TV→Option Value
structure aeJ where
 f:Nat→TV→Value→TV
structure Ms where
 f:TV→H→Option Value
structure RA where
 f:H→Nat→Nat→Option Value
structure ahA where
 f:Value→Value→Option Value
def En (G:Nat) (x:Operand):Ux:=
 Operand.rec (motive:=fun _=>Ux) (fun t=>⟨(TV.KZ t).f⟩) (fun v=>Bool.rec (motive:=fun _=>Ux) ⟨fun _=>none⟩ ⟨fun _=>some v⟩ (af 6 v))
  (fun g=>Bool.rec (motive:=fun _=>Ux) ⟨fun _=>none⟩ ⟨fun _=>some (.pointer (some ⟨g,0,none⟩))⟩ (Nat.blt g G)) (fun f=>⟨fun _=>some (.func (.func f) #[] #[])⟩) x
theorem vJ (tm:TV) (x:Operand):(En G x).f tm=ax G tm x:=by
 cases x with
 |tmp t=>rfl
 |const v=>show (Bool.rec (motive:=fun _=>Ux) ⟨fun _=>none⟩ ⟨fun _=>some v⟩ (af 6 v)).f tm=bif af 6 v then some v else none
           cases af 6 v<;>rfl
 |global g=>show (Bool.rec (motive:=fun _=>Ux) ⟨fun _=>none⟩ ⟨fun _=>some (.pointer (some ⟨g,0,none⟩))⟩ (Nat.blt g G)).f tm=bif Nat.blt g G then some (.pointer (some ⟨g,0,none⟩)) else none
            cases Nat.blt g G<;>rfl
 |func f=>rfl
def qE (dst:Option Tmp):aeJ:=
 Option.rec (motive:=fun _=>aeJ) ⟨fun _ tm _=>tm⟩ (fun d=>⟨fun sz tm v=>Bool.rec (motive:=fun _=>TV) tm ((TV.Iy d).f (some v) tm) (Nat.blt d sz)⟩) dst
theorem mX (dst:Option Tmp) (sz:Nat) (tm:TV) (v:Value):(qE dst).f sz tm v=iT sz tm dst v:=by
 cases dst with
 |none=>rfl
 |some d=>show Bool.rec (motive:=fun _=>TV) tm ((TV.Iy d).f (some v) tm) (Nat.blt d sz)=bif Nat.blt d sz then tm.set d (some v) else tm
          cases Nat.blt d sz<;>rfl
def GX (f:Nat→Nat→Option Value) (v:Value):Option Value:=
 match v with
 | .pointer (some ⟨i,k,none⟩)=>f i k
 |_=>none
def GY (P:Program) (t:TypeId):RA:=
 Option.rec (motive:=fun _=>RA) ⟨fun _ _ _=>none⟩
  (fun b=>Bool.rec (motive:=fun _=>RA)
    ⟨fun h i k=>Option.rec (motive:=fun _=>Option Value) none (fun cs=>LZ cs k) (uC (h.hp.get i))⟩
    (Option.rec (motive:=fun _=>RA) ⟨fun _ _ _=>none⟩ (fun n=>⟨fun h i k=>Option.rec (motive:=fun _=>Option Value) none (fun l=>some (.agg l.toArray)) (ai h i k n)⟩) (jf P t)) b)
  (Xr P t)
theorem take_one (cs:List Value) (k:Nat):(match takeN 1 (cs.drop k) with|some [v]=>some v|_=>none)=cs[k]? :=by
 rw [←List.head?_drop]
 cases cs.drop k with
 |nil=>rfl
 |cons a l=>simp [takeN]
theorem Mt (h:H) (t:TypeId) (i k:Nat):(GY P t).f h i k=h.yj P t i k:=by
 unfold GY H.yj
 rw [I8,fu]
 cases hb:tY P t with
 |none=>cases dU P t<;>rfl
 |some b=>
  cases b with
  |false=>
   have e:∀ o:Option Nat,(match some false,o with|some true,some n=>(h.read i k n).map fun l=> .agg l.toArray|some false,_=>(match h.read i k 1 with|some [v]=>some v|_=>none)|_,_=>none)=(match h.read i k 1 with|some [v]=>some v|_=>none):=fun o=>by cases o<;>rfl
   have e2:=e (dU P t)
   refine Eq.trans ?_ e2.symm
   show Option.rec (motive:=fun _=>Option Value) none (fun cs=>LZ cs k) (uC (h.hp.get i))=_
   rw [uD]
   unfold H.read
   cases h.cells i with
   |none=>rfl
   |some cs=>
    show LZ cs k=(match takeN 1 (cs.drop k) with|some [v]=>some v|_=>none)
    rw [I5,take_one]
  |true=>
   cases hs:dU P t with
   |none=>rfl
   |some n=>
    show Option.rec (motive:=fun _=>Option Value) none (fun l=>some (.agg l.toArray)) (ai h i k n)=(h.read i k n).map fun l=> .agg l.toArray
    rw [D5]
    cases h.read i k n<;>rfl
def Eo (P:Program) (s:TypeId) (f:Nat):Option Nat:=
 match ig P s with
 |some (.struct fields)=>match fields[f]? with
  |some f=>match jf P f.type with
   |some n=>bif Nat.blt 0 n then some f.offset else none
   |none=>none
  |none=>none
 |_=>none
def XL (G:Nat) (x:Operand) (o:Option Nat):Ms:=
 Option.rec (motive:=fun _=>Ms) ⟨fun _ _=>none⟩ (fun off=>⟨fun tm _=>Option.rec (motive:=fun _=>Option Value) none (fun v=>GX (fun i k=>some (.pointer (some ⟨i,Nat.add k off,none⟩))) v) ((En G x).f tm)⟩) o
theorem Uy (tm:TV) (h:H) (s:TypeId) (x:Operand) (f:Nat):(XL G x (Eo P s f)).f tm h=iX P G tm s x f:=by
 unfold iX Eo
 rw [bU]
 simp only [fu]
 cases hu:P.underlying s with
 |none=>rfl
 |some d=>
  cases d with
  |struct fields=>
   simp only
   cases hf:fields[f]? with
   |none=>
    show none=_
    cases ax G tm x with
    |none=>rfl
    |some v=>cases v with
     |pointer a=>cases a with
      |none=>rfl
      |some a=>obtain ⟨i,k,sp⟩:=a;cases sp<;>simp [hf]
     |_=>rfl
   |some fl=>
    simp only
    cases hz:dU P fl.type with
    |none=>
     show none=_
     cases ax G tm x with
     |none=>rfl
     |some v=>cases v with
      |pointer a=>cases a with
       |none=>rfl
       |some a=>obtain ⟨i,k,sp⟩:=a;cases sp<;>simp [hf,hz]
      |_=>rfl
    |some n=>
     simp only
     cases hn:Nat.blt 0 n with
     |false=>
      show none=_
      cases ax G tm x with
      |none=>rfl
      |some v=>cases v with
       |pointer a=>cases a with
        |none=>rfl
        |some a=>obtain ⟨i,k,sp⟩:=a;cases sp<;>simp [hf,hz,hn]
       |_=>rfl
     |true=>
      show Option.rec (motive:=fun _=>Option Value) none (fun v=>GX (fun i k=>some (.pointer (some ⟨i,Nat.add k fl.offset,none⟩))) v) ((En G x).f tm)=_
      rw [vJ]
      cases ax G tm x with
      |none=>rfl
      |some v=>cases v with
       |pointer a=>cases a with
        |none=>rfl
        |some a=>
         obtain ⟨i,k,sp⟩:=a
         cases sp with
         |none=>simp [hf,hz,hn,GX]
         |some _=>rfl
       |_=>rfl
  |_=>rfl
def ahB (P:Program) (op:BinOp) (t:TypeId) (x y:Operand):ahA:=⟨fun a b=>Mk P op t x y a b⟩
def rQ (P:Program) (G:Nat) (op:Op):Ms:=
 (fun d:Ms=>Op.rec (motive:=fun _=>Ms)
   (move:=fun x=>⟨fun tm _=>(En G x).f tm⟩) (assign:=fun x=>⟨fun tm _=>(En G x).f tm⟩) (pick:=fun _ _ _=>d) (alloc:=fun _=>d) (box:=fun _ _=>d) (build:=fun _ _=>d) (buildSlice:=fun _ _ _=>d)
   (insert:=fun _ _ _ _=>d) (load:=fun t x=>⟨fun tm h=>Option.rec (motive:=fun _=>Option Value) none (fun v=>GX ((GY P t).f h) v) ((En G x).f tm)⟩) (store:=fun _ _ _=>d) (ready:=fun _=>d) (waits:=fun _=>d) (nilCheck:=fun _=>d)
   (binOp:=fun op t x y _=>⟨fun tm _=>Option.rec (motive:=fun _=>Option Value) none (fun a=>Option.rec (motive:=fun _=>Option Value) none (fun b=>(ahB P op t x y).f a b) ((En G y).f tm)) ((En G x).f tm)⟩)
   (unOp:=fun _ _ _=>d) (convert:=fun _ _ _=>d) (sliceToArrayPointer:=fun _ _=>d) (makeInterface:=fun _ _=>d) (makeFunc:=fun _ _ _=>d) (makeMap:=fun _ _=>d) (makeChan:=fun _ _=>d) (makeSlice:=fun _ _ _=>d)
   (slice:=fun _ _ _ _ _=>d) (fieldAddr:=fun s x f=>XL G x (Eo P s f)) (field:=fun _ _ _=>d) (indexAddr:=fun _ _ _=>d) (index:=fun _ _ _=>d) (lookup:=fun _ _ _ _=>d) (mapUpdate:=fun _ _ _ _=>d)
   (mapEntry:=fun _ _ _=>d) (entryStore:=fun _ _ _ _=>d) (range:=fun _ _=>d) (next:=fun _ _=>d) (entry:=fun _=>d) (typeAssert:=fun _ _ _ _=>d) (extract:=fun _ _=>d) (call:=fun _=>d) (go:=fun _=>d)
   (defer:=fun _=>d) (panic:=fun _=>d) (send:=fun _ _=>d) (recv:=fun _ _ _=>d) (select:=fun _ _=>d) op) ⟨fun tm h=>yT op P G tm h⟩
theorem Mv (tm:TV) (h:H) (t:TypeId) (x:Operand):Option.rec (motive:=fun _=>Option Value) none (fun v=>GX ((GY P t).f h) v) (ax G tm x)=Bi P G tm h t x:=by
 unfold Bi
 cases ax G tm x with
 |none=>rfl
 |some v=>cases v with
  |pointer a=>cases a with
   |none=>rfl
   |some a=>
    obtain ⟨i,k,sp⟩:=a
    cases sp with
    |none=>exact Mt h t i k
    |some _=>rfl
  |_=>rfl
theorem yX (op:Op) (tm:TV) (h:H):(rQ P G op).f tm h=mq P G tm h op:=by
 cases op with
 |move x=>exact vJ tm x
 |assign x=>exact vJ tm x
 |load t x=>
  show Option.rec (motive:=fun _=>Option Value) none (fun v=>GX ((GY P t).f h) v) ((En G x).f tm)=_
  rw [vJ];exact Mv tm h t x
 |binOp op t x y u=>
  show Option.rec (motive:=fun _=>Option Value) none (fun a=>Option.rec (motive:=fun _=>Option Value) none (fun b=>Mk P op t x y a b) ((En G y).f tm)) ((En G x).f tm)=_
  rw [vJ,vJ];exact GQ tm op t x y
 |fieldAddr s x f=>exact Uy tm h s x f
 |_=>exact Eq.trans (show (rQ P G _).f tm h=yT _ P G tm h from rfl) (uG _ tm h)
abbrev KO:=TV→List Deferred→H→Option (List St)
structure OpK where
 run:(Task→Option (List Out))→Option Nat→Nat→TV→List Deferred→H→KO→Option (List St)
def XM (P:Program) (G:Nat) (o:Oper) (c:Zx):OpK:=
 Zx.rec (motive:=fun _=>OpK)
  (reads:=⟨fun _ _ sz tm df h k=>Option.rec (motive:=fun _=>Option (List St)) none (fun v=>k ((qE o.dst).f sz tm v) df h) ((rQ P G o.op).f tm h)⟩)
  (makes:=⟨fun _ _ sz tm df h k=>Option.rec (motive:=fun _=>Option (List St)) none (fun p=>k ((qE o.dst).f sz tm p.1) df (h.new p.2)) (wK o.op P G tm h.nx)⟩)
  (acts:=⟨fun ih rd sz tm df h k=>lD (Eh G ih df h (Ef o.op P G rd tm h)) (fun r=>k ((qE o.dst).f sz tm r.v) r.df r.h)⟩)
  (next:=⟨fun _ _ sz tm df h k=>lD (Ml G o.op tm df h) (fun r=>k ((qE o.dst).f sz tm r.v) r.df r.h)⟩) c
def opK (P:Program) (G:Nat) (ops:Array Oper) (o:Oper):OpK:=
 Option.rec (motive:=fun _=>OpK) (XM P G o (Mj P o.op))
  (fun _=>⟨fun ih rd sz tm df h k=>Option.rec (motive:=fun _=>Option (List St)) none
    (fun b=>Bool.rec (motive:=fun _=>Option (List St)) (k ((qE o.dst).f sz tm undef) df h) ((XM P G o (Mj P o.op)).run ih rd sz tm df h k) b) (kI ops tm o)⟩) o.guard
theorem GZ {α β γ:Type} (f:α→β) (g:β→Option (List γ)):∀ l:List α,oP g (l.map f)=oP (fun a=>g (f a)) l
 |[]=>rfl
 |[a]=>by
  show oP g [f a]=oP (fun a=>g (f a)) [a]
  unfold oP
  rfl
 |a::b::r=>by
  have ih:=GZ f g (b::r)
  rw [List.map_cons] at ih
  rw [List.map_cons,List.map_cons]
  unfold oP
  cases g (f a) with
  |none=>rfl
  |some x=>simp only [ih]
theorem aav (ih:Task→Option (List Out)) (rd:Option Nat) (o:Oper) (sz:Nat) (tm:TV) (df:List Deferred) (h:H) (k:KO):
 (XM P G o (cls P o.op)).run ih rd sz tm df h k=iC (dZ P G ih rd o.op tm df h) (fun r=>k (iT sz tm o.dst r.v) r.df r.h):=by
 have one:∀ (r:V3),iC (some [r]) (fun r=>k (iT sz tm o.dst r.v) r.df r.h)=k (iT sz tm o.dst r.v) r.df r.h:=by
  intro r
  unfold iC
  simp only
  unfold oP
  cases k (iT sz tm o.dst r.v) r.df r.h<;>rfl
 unfold dZ
 cases cls P o.op with
 |reads=>
  show Option.rec (motive:=fun _=>Option (List St)) none (fun v=>k ((qE o.dst).f sz tm v) df h) ((rQ P G o.op).f tm h)=_
  rw [yX]
  simp only
  cases mq P G tm h o.op with
  |none=>rfl
  |some v=>rw [one];show k ((qE o.dst).f sz tm v) df h=_;rw [mX]
 |makes=>
  show Option.rec (motive:=fun _=>Option (List St)) none (fun p=>k ((qE o.dst).f sz tm p.1) df (h.new p.2)) (wK o.op P G tm h.nx)=_
  rw [Ee]
  simp only
  cases zO P G tm h.nx o.op with
  |none=>rfl
  |some p=>obtain ⟨v,b⟩:=p;rw [one];show k ((qE o.dst).f sz tm v) df (h.new b)=_;rw [mX]
 |acts=>
  show lD (Eh G ih df h (Ef o.op P G rd tm h)) (fun r=>k ((qE o.dst).f sz tm r.v) r.df r.h)=_
  rw [j5,Eg]
  simp only [mX]
  cases FI P G rd tm h o.op<;>rfl
 |next=>
  show lD (Ml G o.op tm df h) (fun r=>k ((qE o.dst).f sz tm r.v) r.df r.h)=_
  rw [j5]
  simp only [mX]
  rfl
structure aeK where
 run:(Task→Option (List Out))→Option Nat→Nat→KO
def Mw (P:Program) (G:Nat) (ops:Array Oper) (l:List Oper):aeK:=
 List.rec (motive:=fun _=>aeK) ⟨fun _ _ sz tm df h=>some [⟨tm,sz,df,h⟩]⟩ (fun o _ rest=>⟨fun ih rd sz tm df h=>(opK P G ops o).run ih rd sz tm df h (rest.run ih rd sz)⟩) l
theorem RB (ih:Task→Option (List Out)) (rd:Option Nat) (ops:Array Oper):∀ (l:List Oper) (st:St),(Mw P G ops l).run ih rd st.sz st.tm st.df st.h=jG P G ih rd ops l st
 |[],st=>rfl
 |o::rest,st=>by
  have e:∀ (tm:TV) (df:List Deferred) (h:H),(Mw P G ops rest).run ih rd st.sz tm df h=jG P G ih rd ops rest ⟨tm,st.sz,df,h⟩:=fun tm df h=>RB ih rd ops rest ⟨tm,st.sz,df,h⟩
  have run:(XM P G o (cls P o.op)).run ih rd st.sz st.tm st.df st.h ((Mw P G ops rest).run ih rd st.sz)=iC (Bn P G ih rd o st) (jG P G ih rd ops rest):=by
   rw [aav]
   unfold Bn
   have e3:(fun r:V3=>(Mw P G ops rest).run ih rd st.sz (iT st.sz st.tm o.dst r.v) r.df r.h)=fun r=>jG P G ih rd ops rest (Dn st o.dst r):=by
    funext r
    rw [e];rfl
   rw [e3]
   cases dZ P G ih rd o.op st.tm st.df st.h with
   |none=>rfl
   |some l=>exact (GZ (Dn st o.dst) (jG P G ih rd ops rest) l).symm
  show (opK P G ops o).run ih rd st.sz st.tm st.df st.h ((Mw P G ops rest).run ih rd st.sz)=(match dw ops st.tm o with
   |none=>none
   |some false=>jG P G ih rd ops rest (Dn st o.dst ⟨undef,st.df,st.h⟩)
   |some true=>iC (Bn P G ih rd o st) (jG P G ih rd ops rest))
  unfold opK
  rw [Ca]
  cases hg:o.guard with
  |none=>
   have hw:dw ops st.tm o=some true:=by unfold dw;rw [hg]
   rw [hw]
   exact run
  |some g=>
   show Option.rec (motive:=fun _=>Option (List St)) none
    (fun b=>Bool.rec (motive:=fun _=>Option (List St)) ((Mw P G ops rest).run ih rd st.sz ((qE o.dst).f st.sz st.tm undef) st.df st.h) ((XM P G o (cls P o.op)).run ih rd st.sz st.tm st.df st.h ((Mw P G ops rest).run ih rd st.sz)) b) (kI ops st.tm o)=_
   rw [xx,run,e,mX]
   cases dw ops st.tm o with
   |none=>rfl
   |some b=>cases b<;>rfl
def kJ (B:Nat) (h:H) (as:List (Nat×Nat×aJ)):H:=
 List.rec (motive:=fun _=>H) h (fun p _ ih=>Bool.rec (motive:=fun _=>H) ih (Option.rec (motive:=fun _=>H) {hp:=ih.hp.set p.2.1 (some p.2.2),nx:=ih.nx,mw:=ih.mw} (fun _=>ih) (h.hp.get p.2.1)) (rV B p.1)) as
theorem ou (B:Nat) (h:H):∀ as:List (Nat×Nat×aJ),kJ B h as=aI B h as
 |[]=>rfl
 |(k,id,o)::r=>by
  show Bool.rec (motive:=fun _=>H) (kJ B h r) (Option.rec (motive:=fun _=>H) {hp:=(kJ B h r).hp.set id (some o),nx:=(kJ B h r).nx,mw:=(kJ B h r).mw} (fun _=>kJ B h r) (h.hp.get id)) (rV B k)=_
  rw [ou B h r,mW]
  show _=(bif Nat.testBit B k then (match h.hp.get id with|none=>{hp:=(aI B h r).hp.set id (some o),nx:=(aI B h r).nx,mw:=(aI B h r).mw} |some _=>aI B h r) else aI B h r)
  cases Nat.testBit B k with
  |false=>rfl
  |true=>cases h.hp.get id<;>rfl
def Mx (b:Bool) (n bq sz i:Nat) (o:Oper) (h0:H) (d:Dr) (r:V3):Option Dr:=
 Bool.rec (motive:=fun _=>Option Dr) none (some {tm:=(qE o.dst).f sz d.tm r.v,df:=r.df,h:=r.h,as:=d.as,es:=i::d.es,rs:=⟨i,o,d.tm,.acts r.df r.h,r.v⟩::d.rs}) (b||lY bq h0 r.h n)
def acN (l:Option (List V3)) (k:V3→Option Dr):Option Dr:=
 Option.rec (motive:=fun _=>Option Dr) none (fun l=>List.rec (motive:=fun _=>Option Dr) none (fun r t _=>List.rec (motive:=fun _=>Option Dr) (k r) (fun _ _ _=>none) t) l) l
theorem aaw (n bq sz i:Nat) (o:Oper) (h0:H) (d:Dr) (l:Option (List V3)):acN l (Mx (mQ o.op) n bq sz i o h0 d)=zZ n bq sz i o h0 d l:=by
 unfold zZ
 cases l with
 |none=>rfl
 |some l=>cases l with
  |nil=>rfl
  |cons r t=>cases t with
   |nil=>
    show Mx (mQ o.op) n bq sz i o h0 d r=_
    unfold Mx
    rw [mX]
    simp only
    cases (mQ o.op||lY bq h0 r.h n)<;>rfl
   |cons _ _=>rfl
structure DrK where
 run:(Task→Option (List Out))→Option Nat→Nat→Nat→Dr→Option Dr
def PR (n B i:Nat) (o:Oper) (r:(Task→Option (List Out))→Option Nat→Dr→H→Option (List V3)):DrK:=
 ⟨fun ih rd sz bq d=>Bool.rec (motive:=fun _=>Option Dr) none (acN (r ih rd d (kJ B d.h d.as)) (Mx (mQ o.op) n bq sz i o (kJ B d.h d.as) d)) (d.es.all (rV B))⟩
def Jn (P:Program) (G n B i:Nat) (o:Oper) (c:Zx):DrK:=
 Zx.rec (motive:=fun _=>DrK)
  (reads:=⟨fun _ _ sz _ d=>Option.rec (motive:=fun _=>Option Dr) none (fun v=>some {tm:=(qE o.dst).f sz d.tm v,df:=d.df,h:=d.h,as:=d.as,es:=d.es,rs:=⟨i,o,d.tm,.reads,v⟩::d.rs}) ((rQ P G o.op).f d.tm (kJ B d.h d.as))⟩)
  (makes:=⟨fun _ _ sz bq d=>Option.rec (motive:=fun _=>Option Dr) none
    (fun p=>some {tm:=(qE o.dst).f sz d.tm p.1,df:=d.df,h:=d.h,as:=(i,bq+i,p.2)::d.as,es:=d.es,rs:=⟨i,o,d.tm,.makes (bq+i) p.2,p.1⟩::d.rs}) (wK o.op P G d.tm (bq+i))⟩)
  (acts:=PR n B i o (fun ih rd d h=>Eh G ih d.df h (Ef o.op P G rd d.tm h)))
  (next:=PR n B i o (fun _ _ d h=>Ml G o.op d.tm d.df h)) c
def Cc (P:Program) (G:Nat) (ops:Array Oper) (B i:Nat) (o:Oper):DrK:=
 Option.rec (motive:=fun _=>DrK) (Jn P G ops.size B i o (Mj P o.op))
  (fun g=>Bool.rec (motive:=fun _=>DrK) ⟨fun _ _ _ _ _=>none⟩
    ⟨fun ih rd sz bq d=>Option.rec (motive:=fun _=>Option Dr) none
      (fun w=>Bool.rec (motive:=fun _=>Option Dr) (some {tm:=(qE o.dst).f sz d.tm undef,df:=d.df,h:=d.h,as:=d.as,es:=d.es,rs:=⟨i,o,d.tm,.skip,undef⟩::d.rs})
        ((Jn P G ops.size B i o (Mj P o.op)).run ih rd sz bq d) w) (kI ops d.tm o)⟩ (rV B g.1)) o.guard
theorem G5 (ih:Task→Option (List Out)) (rd:Option Nat) (sz:Nat) (ops:Array Oper) (Bs:Array Nat) (bq i:Nat) (o:Oper) (d:Dr):
 (Jn P G ops.size (Bs.getD i 0) i o (cls P o.op)).run ih rd sz bq d=Rx (cls P o.op) P G ih rd sz ops Bs bq i o d:=by
 have act:∀ r:(Task→Option (List Out))→Option Nat→Dr→H→Option (List V3),(∀ h,r ih rd d h=dZ P G ih rd o.op d.tm d.df h)→
  (PR ops.size (Bs.getD i 0) i o r).run ih rd sz bq d=Ao P G ih rd sz ops Bs bq i o d:=by
  intro r hr
  show Bool.rec (motive:=fun _=>Option Dr) none (acN (r ih rd d (kJ (Bs.getD i 0) d.h d.as)) (Mx (mQ o.op) ops.size bq sz i o (kJ (Bs.getD i 0) d.h d.as) d)) (d.es.all (rV (Bs.getD i 0)))=_
  rw [hr,aaw,ou]
  have e:rV (Bs.getD i 0)=fun e=>Nat.testBit (Bs.getD i 0) e:=funext (mW _)
  rw [e]
  unfold Ao XI
  rw [xw]
 have hrun:dZ P G ih rd o.op d.tm d.df=fun h=>dZ P G ih rd o.op d.tm d.df h:=rfl
 cases hc:cls P o.op with
 |reads=>
  show Option.rec (motive:=fun _=>Option Dr) none (fun v=>some {tm:=(qE o.dst).f sz d.tm v,df:=d.df,h:=d.h,as:=d.as,es:=d.es,rs:=⟨i,o,d.tm,.reads,v⟩::d.rs}) ((rQ P G o.op).f d.tm (kJ (Bs.getD i 0) d.h d.as))=
   Option.rec (motive:=fun _=>Option Dr) none (fun v=>some {tm:=iT sz d.tm o.dst v,df:=d.df,h:=d.h,as:=d.as,es:=d.es,rs:=⟨i,o,d.tm,.reads,v⟩::d.rs}) (yT o.op P G d.tm (aI (Bs.getD i 0) d.h d.as))
  rw [yX,uG,ou]
  simp only [mX]
 |makes=>
  show Option.rec (motive:=fun _=>Option Dr) none
   (fun p=>some {tm:=(qE o.dst).f sz d.tm p.1,df:=d.df,h:=d.h,as:=(i,bq+i,p.2)::d.as,es:=d.es,rs:=⟨i,o,d.tm,.makes (bq+i) p.2,p.1⟩::d.rs}) (wK o.op P G d.tm (bq+i))=
   Option.rec (motive:=fun _=>Option Dr) none
   (fun p=>some {tm:=iT sz d.tm o.dst p.1,df:=d.df,h:=d.h,as:=(i,bq+i,p.2)::d.as,es:=d.es,rs:=⟨i,o,d.tm,.makes (bq+i) p.2,p.1⟩::d.rs}) (wK o.op P G d.tm (bq+i))
  simp only [mX]
 |acts=>
  refine act (fun ih rd d h=>Eh G ih d.df h (Ef o.op P G rd d.tm h)) (fun h=>?_)
  unfold dZ
  rw [hc,Eg]
  unfold Eh
  cases FI P G rd d.tm h o.op<;>rfl
 |next=>
  refine act (fun _ _ d h=>Ml G o.op d.tm d.df h) (fun h=>?_)
  unfold dZ
  rw [hc]
  rfl
theorem PS (ih:Task→Option (List Out)) (rd:Option Nat) (sz:Nat) (ops:Array Oper) (Bs:Array Nat) (bq i:Nat) (o:Oper) (d:Dr):
 (Cc P G ops (Bs.getD i 0) i o).run ih rd sz bq d=jU P G ih rd sz ops Bs bq i o d:=by
 rw [←Ei]
 unfold Cc yV yx
 rw [Ca]
 cases hg:o.guard with
 |none=>
  have hw:kI ops d.tm o=some true:=by unfold kI;rw [hg]
  rw [hw]
  exact G5 ih rd sz ops Bs bq i o d
 |some g=>
  obtain ⟨j,b⟩:=g
  show (Bool.rec (motive:=fun _=>DrK) ⟨fun _ _ _ _ _=>none⟩ _ (rV (Bs.getD i 0) j)).run ih rd sz bq d=Bool.rec (motive:=fun _=>Option Dr) none _ (Nat.testBit (Bs.getD i 0) j)
  rw [mW]
  cases Nat.testBit (Bs.getD i 0) j with
  |false=>rfl
  |true=>
   show Option.rec (motive:=fun _=>Option Dr) none
    (fun w=>Bool.rec (motive:=fun _=>Option Dr) (some {tm:=(qE o.dst).f sz d.tm undef,df:=d.df,h:=d.h,as:=d.as,es:=d.es,rs:=⟨i,o,d.tm,.skip,undef⟩::d.rs})
      ((Jn P G ops.size (Bs.getD i 0) i o (cls P o.op)).run ih rd sz bq d) w) (kI ops d.tm o)=_
   rw [G5]
   simp only [mX]
def Jo (P:Program) (G:Nat) (ops:Array Oper) (m:Nat→Nat) (l:List Oper):Nat→DrK:=
 List.rec (motive:=fun _=>Nat→DrK) (fun _=>⟨fun _ _ _ _ d=>some d⟩)
  (fun o _ rest i=>⟨fun ih rd sz bq d=>Option.rec (motive:=fun _=>Option Dr) none (fun d'=>(rest (Nat.succ i)).run ih rd sz bq d') ((Cc P G ops (m i) i o).run ih rd sz bq d)⟩) l
theorem Ar (ih:Task→Option (List Out)) (rd:Option Nat) (sz:Nat) (ops:Array Oper) {m:Nat→Nat} {Bs:Array Nat} (hm:m=fun i=>Bs.getD i 0) (bq:Nat):∀ (l:List Oper) (i:Nat) (d:Dr),(Jo P G ops m l i).run ih rd sz bq d=uj P G ih rd sz ops Bs bq l i d
 |[],_,_=>rfl
 |o::rest,i,d=>by
  show Option.rec (motive:=fun _=>Option Dr) none (fun d'=>(Jo P G ops m rest (i+1)).run ih rd sz bq d') ((Cc P G ops (m i) i o).run ih rd sz bq d)=_
  have e:m i=Bs.getD i 0:=by rw [hm]
  rw [e,PS]
  show _=(match jU P G ih rd sz ops Bs bq i o d with|some d'=>uj P G ih rd sz ops Bs bq rest (i+1) d'|none=>none)
  cases jU P G ih rd sz ops Bs bq i o d with
  |none=>rfl
  |some d'=>exact Ar ih rd sz ops hm bq rest (i+1) d'
def RD (m:Nat→Nat) (B ri:Nat) (v:Value) (rd:H→Option Value) (as:List (Nat×Nat×aJ)) (st:List eG):H→Bool:=
 List.rec (motive:=fun _=>H→Bool) (fun h=>allEq v (rd (kJ B h as)))
  (fun e rest ih h=>Bool.rec (motive:=fun _=>Bool) false (Bool.rec (motive:=fun _=>Bool) (ih e.h) true (rV (m e.i) ri)) (Bool.rec (motive:=fun _=>Bool) (allEq v (rd (kJ B h as))) true ((e::rest).any fun e=>rV B e.i))) st
theorem MB {m:Nat→Nat} {Bs:Array Nat} (hm:m=fun i=>Bs.getD i 0) (B:Nat) (as:List (Nat×Nat×aJ)) (r:Rec):∀ (st:List eG) (h:H),RD m B r.i r.v (fun h=>(rQ P G r.o.op).f r.tm h) as st h=fG P G Bs B as r st h
 |[],h=>by
  show allEq r.v ((rQ P G r.o.op).f r.tm (kJ B h as))=(false||allEq r.v (mq P G r.tm (aI B h as) r.o.op))
  rw [yX,ou,Bool.false_or]
 |e::rest,h=>by
  show Bool.rec (motive:=fun _=>Bool) false (Bool.rec (motive:=fun _=>Bool) (RD m B r.i r.v (fun h=>(rQ P G r.o.op).f r.tm h) as rest e.h) true (rV (m e.i) r.i)) (Bool.rec (motive:=fun _=>Bool) (allEq r.v ((rQ P G r.o.op).f r.tm (kJ B h as))) true ((e::rest).any fun e=>rV B e.i))=
   (((e::rest).any (fun e=>Nat.testBit B e.i)||allEq r.v (mq P G r.tm (aI B h as) r.o.op))&&(Nat.testBit (Bs.getD e.i 0) r.i||fG P G Bs B as r rest e.h))
  have em:m e.i=Bs.getD e.i 0:=by rw [hm]
  rw [yX,ou,mW,MB hm B as r rest,em]
  simp only [mW]
  cases ((e::rest).any fun e=>Nat.testBit B e.i)<;>cases (allEq r.v (mq P G r.tm (aI B h as) r.o.op))<;>cases (Nat.testBit (Bs.getD e.i 0) r.i)<;>rfl
def MC (P:Program) (G:Nat) (m:Nat→Nat) (as:List (Nat×Nat×aJ)) (st:List eG) (h0:H) (r:Rec):Bool:=
 RK.rec (motive:=fun _=>Bool) true (Bool.rec (motive:=fun _=>Bool) (RD m (m r.i) r.i r.v (fun h=>(rQ P G r.o.op).f r.tm h) as st h0) true (iZ r.o.op)) (fun _ _=>true) (fun _ _=>true) r.k
def G6 (P:Program) (G:Nat) (m:Nat→Nat) (as:List (Nat×Nat×aJ)) (st:List eG) (h0:H) (rs:List Rec):Bool:=
 List.rec (motive:=fun _=>Bool) true (fun r _ ih=>Bool.rec (motive:=fun _=>Bool) false ih (MC P G m as st h0 r)) rs
theorem yY {m:Nat→Nat} {Bs:Array Nat} (hm:m=fun i=>Bs.getD i 0) (as:List (Nat×Nat×aJ)) (st:List eG) (h0:H):∀ (rs:List Rec),G6 P G m as st h0 rs=gF P G Bs as st h0 rs
 |[]=>rfl
 |r::rs=>by
  show Bool.rec (motive:=fun _=>Bool) false (G6 P G m as st h0 rs) (MC P G m as st h0 r)=_
  rw [yY hm as st h0 rs]
  unfold MC
  have em:m r.i=Bs.getD r.i 0:=by rw [hm]
  rw [em]
  obtain ⟨i,o,tm,k,v⟩:=r
  cases k with
  |reads=>
   show Bool.rec (motive:=fun _=>Bool) false (gF P G Bs as st h0 rs) (Bool.rec (motive:=fun _=>Bool) (RD m (Bs.getD i 0) (⟨i,o,tm,.reads,v⟩:Rec).i (⟨i,o,tm,.reads,v⟩:Rec).v (fun h=>(rQ P G (⟨i,o,tm,.reads,v⟩:Rec).o.op).f (⟨i,o,tm,.reads,v⟩:Rec).tm h) as st h0) true (iZ o.op))=
    ((iZ o.op||fG P G Bs (Bs.getD i 0) as ⟨i,o,tm,.reads,v⟩ st h0)&&gF P G Bs as st h0 rs)
   rw [MB hm]
   cases iZ o.op with
   |true=>rfl
   |false=>cases fG P G Bs (Bs.getD i 0) as ⟨i,o,tm,.reads,v⟩ st h0<;>rfl
  |_=>rfl
def RF (P:Program) (G:Nat) (ih:Task→Option (List Out)) (rd:Option Nat) (ops:Array Oper) (m:Nat→Nat) (ok:Bool) (st:St):Option St:=
 Bool.rec (motive:=fun _=>Option St) none
  (Option.rec (motive:=fun _=>Option St) none
    (fun d=>Bool.rec (motive:=fun _=>Option St) none (some {tm:=d.tm,sz:=st.sz,df:=d.df,h:=kJ (Nat.sub (Nat.pow 2 ops.size) 1) d.h d.as})
      (G6 P G m d.as (aP d.rs []) {hp:=st.h.hp,nx:=st.h.nx+ops.size,mw:=st.h.mw} d.rs))
    ((Jo P G ops m ops.toList 0).run ih rd st.sz st.h.nx {tm:=st.tm,df:=st.df,h:={hp:=st.h.hp,nx:=st.h.nx+ops.size,mw:=st.h.mw},as:=[],es:=[],rs:=[]})) ok
theorem XN (ih:Task→Option (List Out)) (rd:Option Nat) (ops:Array Oper) {m:Nat→Nat} {Bs:Array Nat} (hm:m=fun i=>Bs.getD i 0) (ok:Bool) (st:St):RF P G ih rd ops m ok st=Mo P G ih rd ops Bs ok st:=by
 unfold RF Mo
 rw [Ar ih rd st.sz ops hm,Ap]
 simp only [yY hm,El,ou]
 rfl
def acO (G B:Nat) (t:Nat×Nat×List Value) (rs:List Rec):Bool:=
 List.rec (motive:=fun _=>Bool) true (fun r _ ih=>Bool.rec (motive:=fun _=>Bool) false ih (RK.rec (motive:=fun _=>Bool) true true (fun _ _=>true)
  (fun _ _=>Bool.rec (motive:=fun _=>Bool) (match jk G r.tm r.o.op with|some t'=>nU t t'|none=>false) true (rV B r.i)) r.k)) rs
theorem RG (B:Nat) (t:Nat×Nat×List Value):∀ rs:List Rec,acO G B t rs=Bo G B t rs
 |[]=>rfl
 |r::rs=>by
  show Bool.rec (motive:=fun _=>Bool) false (acO G B t rs) (RK.rec (motive:=fun _=>Bool) true true (fun _ _=>true)
   (fun _ _=>Bool.rec (motive:=fun _=>Bool) (match jk G r.tm r.o.op with|some t'=>nU t t'|none=>false) true (rV B r.i)) r.k)=_
  rw [RG B t rs,mW]
  obtain ⟨i,o,tm,k,v⟩:=r
  cases k with
  |acts df h=>
   show Bool.rec (motive:=fun _=>Bool) false (Bo G B t rs) (Bool.rec (motive:=fun _=>Bool) (match jk G tm o.op with|some t'=>nU t t'|none=>false) true (Nat.testBit B i))=((Nat.testBit B i||(match jk G tm o.op with|some t'=>nU t t'|none=>false))&&Bo G B t rs)
   cases Nat.testBit B i with
   |true=>rfl
   |false=>cases (match jk G tm o.op with|some t'=>nU t t'|none=>false)<;>rfl
  |_=>rfl
def XO (P:Program) (G:Nat) (m:Nat→Nat) (B:Nat) (as:List (Nat×Nat×aJ)) (st:List eG) (h0:H) (rs:List Rec):Bool:=
 List.rec (motive:=fun _=>Bool) true (fun r _ ih=>Bool.rec (motive:=fun _=>Bool) false ih (Bool.rec (motive:=fun _=>Bool) (MC P G m as st h0 r) true (rV B r.i))) rs
theorem ME {m:Nat→Nat} {Bs:Array Nat} (hm:m=fun i=>Bs.getD i 0) (B:Nat) (as:List (Nat×Nat×aJ)) (st:List eG) (h0:H):∀ rs:List Rec,XO P G m B as st h0 rs=oU P G Bs B as st h0 rs
 |[]=>rfl
 |r::rs=>by
  show Bool.rec (motive:=fun _=>Bool) false (XO P G m B as st h0 rs) (Bool.rec (motive:=fun _=>Bool) (MC P G m as st h0 r) true (rV B r.i))=_
  rw [ME hm B as st h0 rs,mW]
  have e:=yY (P:=P) (G:=G) hm as st h0 [r]
  have e1:G6 P G m as st h0 [r]=Bool.rec (motive:=fun _=>Bool) false true (MC P G m as st h0 r):=rfl
  have e2:MC P G m as st h0 r=gF P G Bs as st h0 [r]:=by rw [←e,e1];cases MC P G m as st h0 r<;>rfl
  rw [e2]
  obtain ⟨i,o,tm,k,v⟩:=r
  cases k with
  |reads=>
   show Bool.rec (motive:=fun _=>Bool) false (oU P G Bs B as st h0 rs) (Bool.rec (motive:=fun _=>Bool) ((iZ o.op||fG P G Bs (Bs.getD i 0) as ⟨i,o,tm,.reads,v⟩ st h0)&&true) true (Nat.testBit B i))=
    ((Nat.testBit B i||(iZ o.op||fG P G Bs (Bs.getD i 0) as ⟨i,o,tm,.reads,v⟩ st h0))&&oU P G Bs B as st h0 rs)
   cases Nat.testBit B i with
   |true=>rfl
   |false=>cases (iZ o.op||fG P G Bs (Bs.getD i 0) as ⟨i,o,tm,.reads,v⟩ st h0)<;>rfl
  |skip=>
   show Bool.rec (motive:=fun _=>Bool) false (oU P G Bs B as st h0 rs) (Bool.rec (motive:=fun _=>Bool) true true (Nat.testBit B i))=(true&&oU P G Bs B as st h0 rs)
   cases Nat.testBit B i<;>rfl
  |makes id ob=>
   show Bool.rec (motive:=fun _=>Bool) false (oU P G Bs B as st h0 rs) (Bool.rec (motive:=fun _=>Bool) true true (Nat.testBit B i))=(true&&oU P G Bs B as st h0 rs)
   cases Nat.testBit B i<;>rfl
  |acts df hh=>
   show Bool.rec (motive:=fun _=>Bool) false (oU P G Bs B as st h0 rs) (Bool.rec (motive:=fun _=>Bool) true true (Nat.testBit B i))=(true&&oU P G Bs B as st h0 rs)
   cases Nat.testBit B i<;>rfl
def RH (P:Program) (G:Nat) (m:Nat→Nat) (B:Nat) (as:List (Nat×Nat×aJ)) (h0:H) (r:Rec) (rs:List Rec):Bool:=
 match r.k,jk G r.tm r.o.op with
 | .acts _ _,some t=>
   (h0::(aP rs []).map (·.h)).all (fun h=>(h.write G t.1 t.2.1 t.2.2).isSome)&&(acO G B t rs&&
     XO P G m B as ((aP rs []).map fun e=>⟨e.i,e.df,fU G t e.h⟩) (fU G t h0) rs)
 |_,_=>false
theorem XP {m:Nat→Nat} {Bs:Array Nat} (hm:m=fun i=>Bs.getD i 0) (B:Nat) (as:List (Nat×Nat×aJ)) (h0:H) (r:Rec) (rs:List Rec):RH P G m B as h0 r rs=wW P G Bs B as h0 r rs:=by
 unfold RH wW
 simp only [RG,ME hm]
 rfl
def XQ (m:Nat→Nat) (s i:Nat):Nat:=Bool.rec (motive:=fun _=>Nat) (m i) (Nat.sub (Nat.pow 2 s) 1) (Nat.beq s i)
theorem XR {m:Nat→Nat} {Bs:Array Nat} (hm:m=fun i=>Bs.getD i 0) {s:Nat} (hs:s<Bs.size):XQ m s=fun i=>(Bs.setIfInBounds s (2^s-1)).getD i 0:=by
 funext i
 unfold XQ
 subst hm
 cases hb:Nat.beq s i with
 |true=>
  have:=Nat.eq_of_beq_eq_true hb
  subst this
  show 2^s-1=_
  simp [hs]
 |false=>
  have:s≠i:=fun e=>by subst e;rw [Nat.beq_refl] at hb;cases hb
  show Bs.getD i 0=_
  simp [this]
def Ep (P:Program) (G:Nat) (ih:Task→Option (List Out)) (rd:Option Nat) (ops:Array Oper) (m:Nat→Nat) (s:Nat) (st:St):Option St:=
 Option.rec (motive:=fun _=>Option St) none
  (fun d=>List.rec (motive:=fun _=>Option St) none
    (fun r rs _=>Bool.rec (motive:=fun _=>Option St) none (some {tm:=d.tm,sz:=st.sz,df:=d.df,h:=kJ (Nat.sub (Nat.pow 2 ops.size) 1) d.h d.as})
      (G6 P G m d.as (aP d.rs []) {hp:=st.h.hp,nx:=st.h.nx+ops.size,mw:=st.h.mw} d.rs&&RH P G m (m s) d.as {hp:=st.h.hp,nx:=st.h.nx+ops.size,mw:=st.h.mw} r rs)) d.rs)
  ((Jo P G ops (XQ m s) ops.toList 0).run ih rd st.sz st.h.nx {tm:=st.tm,df:=st.df,h:={hp:=st.h.hp,nx:=st.h.nx+ops.size,mw:=st.h.mw},as:=[],es:=[],rs:=[]})
theorem Uz (ih:Task→Option (List Out)) (rd:Option Nat) (ops:Array Oper) {m:Nat→Nat} (hm:m=fun i=>(Region.before ops).getD i 0) (hs:ops.size-1<(Region.before ops).size) (hok:(eH ops.toList 0&&bM ops (Region.before ops) ops.toList 0)=true) (st:St):
 Ep P G ih rd ops m (ops.size-1) st=jL P G ih rd ops st:=by
 unfold Ep jL
 simp only [hok,cond_true]
 rw [Ar ih rd st.sz ops (XR hm hs)]
 have em:m (ops.size-1)=(Region.before ops).getD (ops.size-1) 0:=by rw [hm]
 rw [em]
 cases uj P G ih rd st.sz ops ((Region.before ops).setIfInBounds (ops.size-1) (2^(ops.size-1)-1)) st.h.nx ops.toList 0 {tm:=st.tm,df:=st.df,h:={hp:=st.h.hp,nx:=st.h.nx+ops.size,mw:=st.h.mw},as:=[],es:=[],rs:=[]} with
 |none=>rfl
 |some d=>
  obtain ⟨tm,df,h,as,es,rs⟩:=d
  cases rs with
  |nil=>rfl
  |cons r rs=>
   show Bool.rec (motive:=fun _=>Option St) none (some {tm:=tm,sz:=st.sz,df:=df,h:=kJ (2^ops.size-1) h as})
    (G6 P G m as (aP (r::rs) []) {hp:=st.h.hp,nx:=st.h.nx+ops.size,mw:=st.h.mw} (r::rs)&&RH P G m ((Region.before ops).getD (ops.size-1) 0) as {hp:=st.h.hp,nx:=st.h.nx+ops.size,mw:=st.h.mw} r rs)=_
   rw [yY hm,XP hm,ou]
   show _=bif (gF P G (Region.before ops) as (aP (r::rs) []) {hp:=st.h.hp,nx:=st.h.nx+ops.size,mw:=st.h.mw} (r::rs)&&wW P G (Region.before ops) ((Region.before ops).getD (ops.size-1) 0) as {hp:=st.h.hp,nx:=st.h.nx+ops.size,mw:=st.h.mw} r rs) then
    (some {tm:=tm,sz:=st.sz,df:=df,h:=aI (2^ops.size-1) h as}:Option St) else none
   cases (gF P G (Region.before ops) as (aP (r::rs) []) {hp:=st.h.hp,nx:=st.h.nx+ops.size,mw:=st.h.mw} (r::rs)&&wW P G (Region.before ops) ((Region.before ops).getD (ops.size-1) 0) as {hp:=st.h.hp,nx:=st.h.nx+ops.size,mw:=st.h.mw} r rs)<;>rfl
def PT (P:Program) (G:Nat) (ih:Task→Option (List Out)) (rd:Option Nat) (ops:Array Oper) (m:Nat→Nat) (st:St):Option St:=
 Bool.rec (motive:=fun _=>Option St) none
  (Option.rec (motive:=fun _=>Option St) (Bool.rec (motive:=fun _=>Option St) (Ep P G ih rd ops m (ops.size-1) st) none (Nat.beq ops.size 0)) (fun s=>some s) (RF P G ih rd ops m true st)) (Jm m ops (uH ops.toList 0) ops.toList 0)
def PU (P:Program) (G:Nat) (ih:Task→Option (List Out)) (rd:Option Nat) (ops:Array Oper) (st:St):Option St:=
 Option.rec (motive:=fun _=>Option St) none (fun M=>PT P G ih rd ops (fun i=>qD M ops.size i) st) (Em ops.size ops.toList 0 0)
theorem UA (ih:Task→Option (List Out)) (rd:Option Nat) (ops:Array Oper) (st:St):PU P G ih rd ops st=Jj P G ih rd ops st:=by
 rw [GU]
 unfold PU
 rcases XK ops with ⟨he,M,hp,hm⟩|⟨he,hp⟩
 ·rw [hp]
  show PT P G ih rd ops (fun i=>qD M ops.size i) st=_
  generalize hmm:(fun i=>qD M ops.size i)=m at hm
  unfold PT
  rw [GV hm]
  cases hn:bM ops (Region.before ops) ops.toList 0 with
  |false=>
   show none=_
   unfold jM mR jL
   simp only [he,hn,Bool.and_false,cond_false]
  |true=>
   show Option.rec (motive:=fun _=>Option St) (Bool.rec (motive:=fun _=>Option St) (Ep P G ih rd ops m (ops.size-1) st) none (Nat.beq ops.size 0)) (fun s=>some s) (RF P G ih rd ops m true st)=_
   have hok:(eH ops.toList 0&&bM ops (Region.before ops) ops.toList 0)=true:=by rw [he,hn];rfl
   have hd:=Mq (P:=P) (G:=G) ih rd ops st
   rw [hok] at hd
   rw [XN ih rd ops hm,hd]
   unfold jM
   cases hr:mR P G ih rd ops st with
   |some s=>rfl
   |none=>
    show Bool.rec (motive:=fun _=>Option St) (Ep P G ih rd ops m (ops.size-1) st) none (Nat.beq ops.size 0)=jL P G ih rd ops st
    cases hz:Nat.beq ops.size 0 with
    |false=>
     have hpos:ops.size≠0:=fun h=>by rw [h] at hz;cases hz
     have hsz:(Region.before ops).size=ops.size:=by
      rw [Ae,←Array.foldl_toList,(Br ops.toList #[]).1];simp
     exact Uz ih rd ops hm (by rw [hsz];omega) hok st
    |true=>
     show none=_
     have h0:=Nat.eq_of_beq_eq_true hz
     have hl:ops.toList=[]:=by
      rw [←List.length_eq_zero_iff,Array.length_toList];exact h0
     unfold jL
     simp only [hl]
     rfl
 ·rw [hp]
  show none=_
  unfold jM mR jL
  simp only [he,Bool.false_and,cond_false]
def Jp (P:Program) (G:Nat) (ih:Task→Option (List Out)) (rd:Option Nat) (st:St) (ops:Array Oper) (draw:Bool):Option (List Out):=
 Bool.rec (motive:=fun _=>Option (List Out)) (lD ((Mw P G ops ops.toList).run ih rd st.sz st.tm st.df st.h) IB)
  (Option.rec (motive:=fun _=>Option (List Out)) none (fun s=>some [.code .normal s]) (PU P G ih rd ops st)) draw
theorem PV (ih:Task→Option (List Out)) (rd:Option Nat) (st:St) (ops:Array Oper) (draw:Bool):Jp P G ih rd st ops draw=kZ P G ih rd st ops draw:=by
 rw [←PN]
 unfold Jp Jk
 rw [RB,xz,UA]
def qF (P:Program) (tm:TV) (h:H):List ResultVar→Option (List Value)
 |[]=>some []
 | .tmp t::r=>match tm.get t,qF P tm h r with
   |some v,some l=>some (v::l)
   |_,_=>none
 | .cell a t::r=>match tm.get a,qF P tm h r with
   |some (.pointer (some ⟨i,k,none⟩)),some l=>((GY P t).f h i k).map (· ::l)
   |_,_=>none
theorem uJ (tm:TV) (h:H):∀ l:List ResultVar,qF P tm h l=ja P tm h l
 |[]=>rfl
 | .tmp t::r=>by simp only [qF,ja,uJ tm h r];rfl
 | .cell a t::r=>by simp only [qF,ja,uJ tm h r,Mt];rfl
def uK (P:Program) (G:Nat) (ih:Task→Option (List Out)) (fn:Func) (tm:TV):List Deferred→H→Option (List (Value×H))
 |[],h=>(qF P tm h fn.results.toList).map fun l=>[(BV l,h)]
 |d::ds,h=>
  match d.target with
  | .collected b=>match h.hp.get b with
    |some (.defs true)=>bif Nat.ble G b then uK P G ih fn tm ds (h.put b (some (.defs false))) else none
    |_=>none
  | .fn (.func g) captured=>
    match fnF P g with
    |some gn=>match gn.body with
     |some _=>iC (ih (.call g (d.args.toList++captured.toList) h)) fun
       | .call _ h1=>uK P G ih fn tm ds h1
       | .code _ _=>none
     |none=>none
    |none=>none
  |_=>none
theorem G7 (ih:Task→Option (List Out)) (fn:Func) (tm:TV):∀ (l:List Deferred) (h:H),uK P G ih fn tm l h=mE P G ih fn tm l h
 |[],h=>by simp only [uK,mE,uJ]
 |d::ds,h=>by
  have e:uK P G ih fn tm ds=mE P G ih fn tm ds:=funext (G7 ih fn tm ds)
  simp only [uK,mE,Pm,e]
  rfl
def Er (P:Program) (G:Nat) (ih:Task→Option (List Out)) (fn:Func):Out→Option (List (Value×H))
 | .code .normal st=>uK P G ih fn st.tm st.df st.h
 | .code .ret st=>uK P G ih fn st.tm st.df st.h
 |_=>none
theorem MF (ih:Task→Option (List Out)) (fn:Func):Er P G ih fn=IA P G ih fn:=by
 funext o
 cases o with
 |code e st=>cases e<;>simp only [Er,IA,G7]
 |call v h=>rfl
def vK (P:Program) (G:Nat) (ih:Task→Option (List Out)) (f:FuncId) (args:List Value) (h:H):Option (List Out):=
 match fnF P f with
 |some fn=>match fn.body with
  |some c=>
   bif Nat.ble args.length fn.ntmps then
    match lD (ih (.code c none {tm:=Dp args 0 .e,sz:=fn.ntmps,df:=[],h:={h with mw:=far}})) (Er P G ih fn) with
    |some l=>merge h l
    |none=>none
   else none
  |none=>none
 |none=>none
theorem Jq (ih:Task→Option (List Out)) (f:FuncId) (args:List Value) (h:H):vK P G ih f args h=nV P G ih f args h:=by
 unfold vK nV
 simp only [Pm,j5,MF]
 try rfl
def XT (c:Code):CF:=
 Code.rec (motive:=fun _=>CF)
  (skip:=fun _ _ _ _ st=>some [.code .normal st]) (region:=fun _ ops draw P G ih rd st=>Jp P G ih rd st ops draw) (seq:=fun a b _ _ _ _ ih rd st=>lD (ih (.code a rd st)) (oV ih b rd))
  (cond:=fun c a b _ _ _ G ih rd st=>yA G ih rd st c a b) (block:=fun id body _ _ _ ih rd st=>lD (ih (.code body rd st)) (vB id)) (loop:=fun body _ _ _ ih rd st=>lD (ih (.code body rd st)) (oV ih (.loop body) rd))
  (rangeFunc:=fun f params assign body _ _ P G ih rd st=>vC P G ih rd st f params assign body) (exit:=fun id _ _ _ _ st=>some [.code (.exit id) st]) (scope:=fun body _ _ _ ih rd st=>ih (.code body rd st))
  (label:=fun _ _ _ _ _ st=>some [.code .normal st]) (goto:=fun _ _ _ _ _ _=>none) (ret:=fun _ _ _ _ st=>some [.code .ret st]) (refuse:=fun _ _ _ _ _ _=>none) c
theorem XU (ih:Task→Option (List Out)) (rd:Option Nat) (st:St) (c:Code):XT c P G ih rd st=yB P G ih rd st c:=by
 cases c with
 |region id ops draw=>exact PV _ _ _ _ _
 |seq a b=>exact j5 _ _
 |block id b=>exact j5 _ _
 |loop b=>exact j5 _ _
 |_=>rfl
end Go.CE
namespace Go.CE
open Go Go.RowKit
variable {P:Program} {G:Nat}
structure gG where
 f:FuncId
 args:List Value
 jI:List (Nat×List Value)
 val:Value
def jg:List (Nat×List Value)→TH
 |[]=>TH.e
 |(g,cs)::r=>(jg r).set g (some (.cells cs))
def Jr (hp:TH) (g:Nat) (cs:List Value):Bool:=
 match hp.get g with
 |some (.cells cs')=>rU (Dg 8) cs cs'
 |_=>false
def yZ (hp:TH):List (Nat×List Value)→Bool
 |[]=>true
 |(g,cs)::r=>Jr hp g cs&&yZ hp r
def gG.hit (e:gG) (f:FuncId) (args:List Value) (h:H):Bool:=Nat.beq e.f f&&(rU (Dg 8) e.args args&&yZ h.hp e.jI)
def lM:List gG→FuncId→List Value→H→Option Value
 |[],_,_,_=>none
 |e::r,f,args,h=>bif e.hit f args h then some e.val else lM r f args h
def gG.closed (G:Nat) (e:gG):Bool:=e.args.all (af 8)&&(e.jI.all (fun p=>Nat.blt p.1 G&&p.2.all (af 8))&&af 8 e.val)
def pJ [aa] (P:Program) (G:Nat) (e:gG):Prop:=
 e.closed G=true∧∃ outs,TP P G e.f e.args {hp:=jg e.jI,nx:=G,mw:=far} outs∧outs.all (Xl e.val)=true
def Zy (P:Program) (G:Nat) (M:List gG):Nat→Task→Option (List Out)
 |0,_=>none
 |n+1,.call f args h=>match lM M f args h with
  |some v=>some [.call v h]
  |none=>nV P G (Zy P G M n) f args h
 |n+1,.code c rd st=>yB P G (Zy P G M n) rd st c
theorem wL:∀ (l m:List Value),rU (Dg 8) l m=true→l=m:=by
 intro l
 induction l with
 |nil=>intro m h;cases m with
  |nil=>rfl
  |cons b m=>cases h
 |cons a l ih=>intro m h;cases m with
  |nil=>cases h
  |cons b m=>
   have h':(Dg 8 a b&&rU (Dg 8) l m)=true:=h
   simp only [Bool.and_eq_true] at h'
   rw [Ad 8 a b h'.1,ih m h'.2]
theorem G8 (hp:TH):∀ (l:List (Nat×List Value)),yZ hp l=true→∀ i o,(jg l).get i=some o→hp.get i=some o∧∃ p∈l,p.1=i∧o= .cells p.2
 |[],_,i,o,h=>by rw [show jg []=TH.e from rfl,TH.Gr] at h;cases h
 |(g,cs)::r,hh,i,o,h=>by
  have hh':(Jr hp g cs&&yZ hp r)=true:=hh
  simp only [Bool.and_eq_true] at hh'
  rw [show jg ((g,cs)::r)=(jg r).set g (some (.cells cs)) from rfl,TH.fT] at h
  by_cases e:i=g
  ·subst e
   rw [if_pos rfl] at h
   cases h
   have h1:=hh'.1
   unfold Jr at h1
   split at h1
   ·rename_i cs' he
    have:=wL _ _ h1
    subst this
    exact ⟨he,_,List.mem_cons_self,rfl,rfl⟩
   ·cases h1
  ·rw [if_neg e] at h
   obtain ⟨a,p,b,c⟩:=G8 hp r hh'.2 i o h
   exact ⟨a,p,List.mem_cons_of_mem _ b,c⟩
theorem XV [aa] {e:gG} (he:pJ P G e) {f:FuncId} {args:List Value} {h:H} (hh:e.hit f args h=true):TP P G f args h [.call e.val h]:=by
 obtain ⟨hc,outs,hs,ho⟩:=he
 unfold gG.hit at hh
 unfold gG.closed at hc
 simp only [Bool.and_eq_true] at hh hc
 obtain ⟨hf,ha,hg⟩:=hh
 obtain ⟨c1,c2,c3⟩:=hc
 have hf':e.f=f:=Nat.eq_of_beq_eq_true hf
 have ha':e.args=args:=wL _ _ ha
 subst hf' ha'
 intro kind args' cs w ρ hr hv hk
 have hcl:∀ i o,(jg e.jI).get i=some o→i<G∧h.hp.get i=some o∧∃ cs,o= .cells cs∧∀ x∈cs,af 8 x=true:=by
  intro i o hi
  obtain ⟨a,p,b,c,d⟩:=G8 h.hp e.jI hg i o hi
  have:=List.all_eq_true.1 c2 p b
  simp only [Bool.and_eq_true] at this
  have hlt:p.1<G:=Nat.le_of_ble_eq_true this.1
  exact ⟨by rw [←c];exact hlt,a,p.2,d,fun x hx=>List.all_eq_true.1 this.2 x hx⟩
 have hr0:HR G {hp:=jg e.jI,nx:=G,mw:=far} ρ w:=by
  refine ⟨fun i o hi=>?_,fun i j hi hj he=>?_,hr.jI,Nat.le_refl _⟩
  ·obtain ⟨hlt,hi',cs0,rfl,hcs⟩:=hcl i o hi
   obtain ⟨hin,ob,ji,iD⟩:=hr.obj i _ hi'
   refine ⟨⟨hlt,hin.2⟩,ob,ji,?_⟩
   cases iD with
   |cells _ c e fz hz hl hv hfz=>
    refine .cells _ c e fz hz hl (fun j x hx=>?_) hfz
    obtain ⟨y,y1,y2⟩:=hv j x hx
    have hx8:=hcs x (List.mem_of_getElem? hx)
    have:=nW 8 x y hx8 y2
    subst this
    exact ⟨y,y1,eO 8 y hx8⟩
  ·refine hr.inj i j ?_ ?_ he
   ·cases hq:(jg e.jI).get i with
    |none=>exact absurd hq hi
    |some o=>rw [(hcl i o hq).2.1];exact fun h=>by cases h
   ·cases hq:(jg e.jI).get j with
    |none=>exact absurd hq hj
    |some o=>rw [(hcl j o hq).2.1];exact fun h=>by cases h
 have hv0:V2 G ρ e.args args'.toList:=by
  refine ⟨hv.1,fun j x y hx hy=>?_⟩
  have hx8:=List.all_eq_true.1 c1 x (List.mem_of_getElem? hx)
  have:=nW 8 x y hx8 (hv.2 j x y hx hy)
  subst this
  exact eO 8 y hx8
 obtain ⟨v0,h0,hmem,v',ρ',w',fr,g1,g2,g3,g4,g5⟩:=hs kind args' cs w ρ hr0 hv0 hk
 have hx:=List.all_eq_true.1 ho _ hmem
 have hxv:e.val=v0:=Ad 8 e.val v0 hx
 subst hxv
 have hvv:=nW 8 _ v' c3 g1
 subst hvv
 have XW:∀ b,b<w.heap.size→w'.heap[b]? =w.heap[b]? :=fun b hb=>g3.block b hb (fun i hi hl=>by
  cases hq:(jg e.jI).get i with
  |none=>exact absurd hq hl
  |some o=>have:=(hcl i o hq).1;omega)
 refine ⟨e.val,h,List.mem_cons_self,e.val,ρ,w',fr,eO 8 _ c3,⟨fun i o hi=>?_,hr.inj,hr.jI,hr.bound⟩,⟨Nat.le_refl _,Agree.refl _ _,g3.os,g3.tape,g3.output,g3.size,fun b hb _=>XW b hb,fun i hi hn=> .inl ⟨i,hi,hn,rfl⟩,Nat.le_refl _,fun _ _ _=>rfl,fun _ _=>rfl,fun _ _=>rfl⟩,g4,g5⟩
 obtain ⟨hin,ob,ji,iD⟩:=hr.obj i o hi
 refine ⟨hin,ob,?_,iD⟩
 rw [XW _ ?_]
 ·exact ji
 ·exact (Array.getElem?_eq_some_iff.1 ji).1
theorem MG [aa] {M:List gG} (hM:∀ e∈M,pJ P G e) {f:FuncId} {args:List Value} {h:H} {v:Value} (hv:lM M f args h=some v):TP P G f args h [.call v h]:=by
 induction M with
 |nil=>cases hv
 |cons e r ih=>
  have hv':(bif e.hit f args h then some e.val else lM r f args h)=some v:=hv
  cases hb:e.hit f args h with
  |true=>
   rw [hb] at hv'
   cases hv'
   exact XV (hM e List.mem_cons_self) hb
  |false=>
   rw [hb] at hv'
   exact ih (fun e he=>hM e (List.mem_cons_of_mem _ he)) hv'
theorem RI [aa] (hm:P.follows .mixedOrders=true) (hN:dV P) {M:List gG} (hM:∀ e∈M,pJ P G e):∀ n,IH P G (Zy P G M n):=by
 intro n
 induction n with
 |zero=>intro t outs h;cases h
 |succ n ih=>
  intro t outs h
  cases t with
  |code c rd st=>exact LC hN ih (Xk hm hN ih) h
  |call f args h0=>
   have h':(match lM M f args h0 with|some v=>some [.call v h0]|none=>nV P G (Zy P G M n) f args h0)=some outs:=h
   cases hg:lM M f args h0 with
   |some v=>
    rw [hg] at h'
    cases h'
    exact MG hM hg
   |none=>
    rw [hg] at h'
    exact LH hN ih h'
def UC (M:List gG) (n:Nat):Program→Nat→Task→Option (List Out):=
 Nat.rec (motive:=fun _=>Program→Nat→Task→Option (List Out)) (fun _ _ _=>none)
  (fun _ ih P G t=>Task.rec (motive:=fun _=>Program→Nat→(Task→Option (List Out))→Option (List Out)) (code:=fun c rd st P G ih=>XT c P G ih rd st)
    (call:=fun f args h P G ih=>Option.rec (motive:=fun _=>Option (List Out)) (vK P G ih f args h) (fun v=>some [.call v h]) (lM M f args h)) t P G (ih P G)) n
theorem Js (M:List gG):∀ (n:Nat) (t:Task),UC M n P G t=Zy P G M n t
 |0,t=>rfl
 |n+1,t=>by
  have e:UC M n P G=Zy P G M n:=funext (Js M n)
  cases t with
  |code c rd st=>
   show XT c P G (UC M n P G) rd st=yB P G (Zy P G M n) rd st c
   rw [e];exact XU _ _ _ _
  |call f args h=>
   show Option.rec (motive:=fun _=>Option (List Out)) (vK P G (UC M n P G) f args h) (fun v=>some [.call v h]) (lM M f args h)=(match lM M f args h with|some v=>some [.call v h]|none=>nV P G (Zy P G M n) f args h)
   rw [e,Jq]
   cases lM M f args h<;>rfl
def gG.says (P:Program) (G n:Nat) (M:List gG) (e:gG):Bool:=
 Option.rec (motive:=fun _=>Bool) false (fun outs=>outs.all (Xl e.val)&&e.closed G) (UC M n P G (.call e.f e.args {hp:=jg e.jI,nx:=G,mw:=far}))
theorem RJ [aa] (hm:P.follows .mixedOrders=true) (hN:dV P) {M:List gG} (hM:∀ e∈M,pJ P G e) {n:Nat} {e:gG} (h:e.says P G n M=true):pJ P G e:=by
 unfold gG.says at h
 rw [Js] at h
 cases hev:Zy P G M n (.call e.f e.args {hp:=jg e.jI,nx:=G,mw:=far}) with
 |none=>rw [hev] at h;cases h
 |some outs=>
  rw [hev] at h
  have h':(outs.all (Xl e.val)&&e.closed G)=true:=h
  simp only [Bool.and_eq_true] at h'
  exact ⟨h'.2,outs,RI hm hN hM n _ _ hev,h'.1⟩
theorem RL [aa] {n:Nat} {ρ:Ren} {l:List Value} (h:l.all (af 8)=true):V2 n ρ l l:=by
 refine ⟨rfl,fun j x y hx hy=>?_⟩
 rw [hx] at hy
 cases hy
 exact eO 8 x (List.all_eq_true.1 h x (List.mem_of_getElem? hx))
theorem PW [aa] {f:FuncId} {as:List Value} {gs:List (Nat×List Value)} {v:Value} (he:pJ P G {f:=f,args:=as,jI:=gs,val:=v}) {w:World} (hl:Xm (jg gs) G w):
 Calls P f as.toArray w fun e w'=>e= .returned v∧Quiet w w':=by
 intro cs
 obtain ⟨hc,outs,hs,ho⟩:=he
 unfold gG.closed at hc
 simp only [Bool.and_eq_true] at hc
 have h2:af 8 v=true:=hc.2.2
 obtain ⟨hno,hg⟩:=hl
 let ρ:Ren:=fun i=>(i,0,match w.heap[i]? with|some (.cells c _ _)=>c.size|_=>0)
 have hr:HR G {hp:=jg gs,nx:=G,mw:=far} ρ w:=by
  refine ⟨fun i o hi=>?_,fun i j _ _ e=>e,fun g _=>⟨rfl,rfl⟩,Nat.le_refl _⟩
  have hi':(jg gs).get i=some o:=hi
  obtain ⟨cs',c,e,fz,rfl,ji,hlen,hfz,hcell⟩:=hg i o hi'
  have hz:(ρ i).2.2=c.size:=by show (match w.heap[i]? with|some (.cells c _ _)=>c.size|_=>0)=c.size;rw [ji]
  refine ⟨⟨?_,Nat.zero_le _⟩,_,ji,.cells _ _ _ _ hz.symm ?_ ?_ hfz⟩
  ·rcases Nat.lt_or_ge i G with hlt|hge
   ·exact hlt
   ·rw [hno i hge] at hi';cases hi'
  ·show 0+cs'.length≤c.size;omega
  ·intro j x hx
   obtain ⟨hx1,hx2⟩:=hcell j x hx
   exact ⟨x,by show c[0+j]? =some x;rw [Nat.zero_add];exact hx2,eO 8 x hx1⟩
 obtain ⟨x,h',hmem,v',ρ',w',fr,g1,g2,g3,g4,g5⟩:=hs .normal as.toArray cs w ρ hr (RL hc.1) (.inl rfl)
 have hx:=List.all_eq_true.1 ho _ hmem
 have hxv:v=x:=Ad 8 v x hx
 subst hxv
 have hvv:=nW 8 v v' h2 g1
 subst hvv
 obtain ⟨m1,m2,m3,m4,fn,m5,m6⟩:=g5
 refine ⟨.returned v',w',fr,⟨rfl,g3.os,g3.tape,g3.output,g3.size,fun b hb=>g3.block b hb (fun i hi hl=>?_)⟩,g4,m4,m1,m2,m3,fn,by rw [m4];exact m5,m6⟩
 exact absurd (hno i hi) hl
instance adU:aa:=⟨fun _=> .nilIface,fun _=>rfl⟩
end Go.CE
