/-
  The texts CeE of this claim, one behind the other.
-/
import Derived.Test.YtmldhjoolebjoaaGreatDoorZTFA5
import Derived.IntWalk
import Derived.Lib.IndexBytes
noncomputable section
namespace Go.CE
open Go Go.RowKit
variable {P:Program} {G:Nat}
def Rt {α:Type} (k:Nat) (l:List α):List α:=
 Nat.rec (motive:=fun _=>List α→List α) (fun l=>l) (fun _ ih l=>List.rec (motive:=fun _=>List α) [] (fun _ t _=>ih t) l) k l
theorem DZ {α:Type}:∀ (k:Nat) (l:List α),Rt k l=l.drop k
 |0,_=>rfl
 |_+1,[]=>rfl
 |k+1,_::t=>DZ k t
def I4 {α:Type} (n:Nat) (l:List α):Option (List α):=
 Nat.rec (motive:=fun _=>List α→Option (List α)) (fun _=>some [])
  (fun _ ih l=>List.rec (motive:=fun _=>Option (List α)) none (fun a t _=>Option.rec (motive:=fun _=>Option (List α)) none (fun r=>some (a::r)) (ih t)) l) n l
theorem GN:∀ (n:Nat) (l:List Value),I4 n l=takeN n l
 |0,l=>by show some []=_;simp [takeN]
 |n+1,[]=>by show none=_;simp [takeN];rfl
 |n+1,a::t=>by
  have ih:=GN n t
  show Option.rec (motive:=fun _=>Option (List Value)) none (fun r=>some (a::r)) (I4 n t)=takeN (n+1) (a::t)
  rw [ih]
  unfold takeN
  simp only [List.take_succ_cons,List.length_cons]
  have e:Nat.beq ((t.take n).length+1) (n+1)=Nat.beq (t.take n).length n:=by
   rw [Bool.eq_iff_iff,Nat.beq_eq,Nat.beq_eq];omega
  rw [e]
  cases Nat.beq (t.take n).length n<;>rfl
def LZ {α:Type} (l:List α) (k:Nat):Option α:=List.rec (motive:=fun _=>Option α) none (fun a _ _=>some a) (Rt k l)
theorem I5 {α:Type} (l:List α) (k:Nat):LZ l k=l[k]? :=by
 unfold LZ
 rw [DZ,←List.head?_drop]
 cases l.drop k<;>rfl
def Ru (vs:List Value):List Value→Option (List Value):=
 List.rec (motive:=fun _=>List Value→Option (List Value)) (fun cs=>some cs)
  (fun v _ ih cs=>List.rec (motive:=fun _=>Option (List Value)) none (fun _ r _=>Option.rec (motive:=fun _=>Option (List Value)) none (fun x=>some (v::x)) (ih r)) cs) vs
theorem L6:∀ (vs cs:List Value),Ru vs cs=bif Nat.ble vs.length cs.length then some (vs++cs.drop vs.length) else none
 |[],cs=>by
  show some cs=_
  have:Nat.ble 0 cs.length=true:=Nat.ble_eq_true_of_le (Nat.zero_le _)
  simp [this]
 |v::vs,[]=>rfl
 |v::vs,c::cs=>by
  show Option.rec (motive:=fun _=>Option (List Value)) none (fun x=>some (v::x)) (Ru vs cs)=_
  rw [L6 vs cs]
  simp only [List.length_cons,List.drop_succ_cons,List.cons_append]
  have e:Nat.ble (vs.length+1) (cs.length+1)=Nat.ble vs.length cs.length:=by rw [Bool.eq_iff_iff,Nat.ble_eq,Nat.ble_eq];omega
  rw [e]
  cases Nat.ble vs.length cs.length<;>rfl
def xh (k:Nat) (vs:List Value) (cs:List Value):Option (List Value):=
 Nat.rec (motive:=fun _=>List Value→Option (List Value)) (Ru vs)
  (fun _ ih cs=>List.rec (motive:=fun _=>Option (List Value)) none (fun c r _=>Option.rec (motive:=fun _=>Option (List Value)) none (fun x=>some (c::x)) (ih r)) cs) k cs
theorem Aj (vs:List Value):∀ (k:Nat) (cs:List Value),xh k vs cs=putAt cs k vs
 |0,cs=>by show Ru vs cs=_;rw [L6];cases cs<;>rfl
 |k+1,[]=>rfl
 |k+1,c::cs=>by
  show Option.rec (motive:=fun _=>Option (List Value)) none (fun x=>some (c::x)) (xh k vs cs)=_
  rw [Aj vs k cs]
  show _=(match putAt cs k vs with|some r=>some (c::r)|none=>none)
  cases putAt cs k vs<;>rfl
def uC:Option aJ→Option (List Value):=fun o=>Option.rec (motive:=fun _=>Option (List Value)) none
 (fun x=>aJ.casesOn (motive:=fun _=>Option (List Value)) x (fun cs=>some cs) (fun _ _=>none) (fun _ _=>none) (fun _ _ _ _=>none) (fun _ _ _ _ _ _ _=>none) (fun _=>none)) o
theorem uD (h:H) (i:Nat):uC (h.hp.get i)=h.cells i:=by
 unfold H.cells
 cases h.hp.get i with
 |none=>rfl
 |some x=>cases x<;>rfl
def ai (h:H) (i k n:Nat):Option (List Value):=
 Option.rec (motive:=fun _=>Option (List Value)) none (fun cs=>I4 n (Rt k cs)) (uC (h.hp.get i))
theorem D5 (h:H) (i k n:Nat):ai h i k n=h.read i k n:=by
 unfold ai H.read
 rw [uD]
 cases h.cells i with
 |none=>rfl
 |some cs=>show I4 n (Rt k cs)=_;rw [GN,DZ]
def Pk (G:Nat) (h:H) (i k:Nat) (vs:List Value):Option H:=
 Bool.rec (motive:=fun _=>Option H) none
  (Option.rec (motive:=fun _=>Option H) none (fun cs=>Option.rec (motive:=fun _=>Option H) none (fun cs'=>some (h.put i (some (.cells cs')))) (xh k vs cs)) (uC (h.hp.get i)))
  (Nat.ble G i&&vs.all oneCell)
theorem Ud (G:Nat) (h:H) (i k:Nat) (vs:List Value):Pk G h i k vs=h.write G i k vs:=by
 unfold Pk H.write
 rw [uD]
 cases (Nat.ble G i&&vs.all oneCell) with
 |false=>rfl
 |true=>
  cases h.cells i with
  |none=>rfl
  |some cs=>
   show Option.rec (motive:=fun _=>Option H) none (fun cs'=>some (h.put i (some (.cells cs')))) (xh k vs cs)=(match putAt cs k vs with|some cs'=>some (h.put i (some (.cells cs')))|none=>none)
   rw [Aj]
   cases putAt cs k vs<;>rfl
def ltI (a b:Int):Bool:=
 Int.rec (motive:=fun _=>Int→Bool) (fun m b=>Int.rec (motive:=fun _=>Bool) (fun n=>Nat.blt m n) (fun _=>false) b)
  (fun m b=>Int.rec (motive:=fun _=>Bool) (fun _=>true) (fun n=>Nat.blt n m) b) a b
theorem I6 (a b:Int):ltI a b=decide (a<b):=by
 cases a with
 |ofNat m=>cases b with
  |ofNat n=>show Nat.blt m n=_;rw [Bool.eq_iff_iff,decide_eq_true_iff,Nat.blt_eq];simp
  |negSucc n=>show false=_;symm;rw [decide_eq_false_iff_not];have:=Int.negSucc_lt_zero n;have h2:(0:Int)≤Int.ofNat m:=Int.natCast_nonneg m;omega
 |negSucc m=>cases b with
  |ofNat n=>show true=_;symm;rw [decide_eq_true_iff];have:=Int.negSucc_lt_zero m;have h2:(0:Int)≤Int.ofNat n:=Int.natCast_nonneg n;omega
  |negSucc n=>show Nat.blt n m=_;rw [Bool.eq_iff_iff,decide_eq_true_iff,Nat.blt_eq];omega
def eqI (a b:Int):Bool:=
 Int.rec (motive:=fun _=>Int→Bool) (fun m b=>Int.rec (motive:=fun _=>Bool) (fun n=>Nat.beq m n) (fun _=>false) b)
  (fun m b=>Int.rec (motive:=fun _=>Bool) (fun _=>false) (fun n=>Nat.beq m n) b) a b
theorem Xn (a b:Int):eqI a b=decide (a=b):=by
 cases a with
 |ofNat m=>cases b with
  |ofNat n=>show Nat.beq m n=_;rw [Bool.eq_iff_iff,decide_eq_true_iff,Nat.beq_eq];exact ⟨fun h=>by rw [h],fun h=>Int.ofNat.inj h⟩
  |negSucc n=>show false=_;symm;rw [decide_eq_false_iff_not];intro h;cases h
 |negSucc m=>cases b with
  |ofNat n=>show false=_;symm;rw [decide_eq_false_iff_not];intro h;cases h
  |negSucc n=>show Nat.beq m n=_;rw [Bool.eq_iff_iff,decide_eq_true_iff,Nat.beq_eq];simp
def L8 (k:IntKind):Nat:=
 IntKind.rec (motive:=fun _=>Nat) 128 32768 2147483648 9223372036854775808 256 65536 4294967296 18446744073709551616 k
theorem Xo (k:IntKind) (s:Nat) (h:Nat.blt s (L8 k)=true):k.wrap (Int.ofNat s)=Int.ofNat s:=by
 have h':s<L8 k:=Nat.le_of_ble_eq_true h
 have e:(Int.ofNat s)=(s:Int):=rfl
 rw [e]
 cases k<;>simp only [L8] at h'
 ·exact IntWalk.i8_in _ (by omega)
 ·exact IntWalk.i16_in _ (by omega)
 ·exact IntWalk.i32_in _ (by omega)
 ·exact IntWalk.i64_in _ (by omega)
 ·exact IntWalk.u8_in _ (by omega)
 ·exact IntWalk.u16_in _ (by omega)
 ·exact IntWalk.u32_in _ (by omega)
 ·exact IntWalk.u64_in _ (by omega)
def vI (k:IntKind) (s:Nat):Int:=Bool.rec (motive:=fun _=>Int) (k.wrap (Int.ofNat s)) (Int.ofNat s) (Nat.blt s (L8 k))
theorem D6 (k:IntKind) (s:Nat):vI k s=k.wrap (Int.ofNat s):=by
 unfold vI
 cases h:Nat.blt s (L8 k) with
 |false=>rfl
 |true=>exact (Xo k s h).symm
def acH (k:IntKind) (a b:Int):Int:=
 Int.rec (motive:=fun _=>Int→Int) (fun m b=>Int.rec (motive:=fun _=>Int) (fun n=>vI k (Nat.add m n)) (fun n=>k.wrap (Int.ofNat m+Int.negSucc n)) b)
  (fun m b=>k.wrap (Int.negSucc m+b)) a b
theorem aaq (k:IntKind) (a b:Int):acH k a b=k.wrap (a+b):=by
 cases a with
 |ofNat m=>cases b with
  |ofNat n=>exact D6 k (m+n)
  |negSucc n=>rfl
 |negSucc m=>rfl
def acI (k:IntKind) (a b:Int):Int:=
 Int.rec (motive:=fun _=>Int→Int) (fun m b=>Int.rec (motive:=fun _=>Int)
  (fun n=>Bool.rec (motive:=fun _=>Int) (k.wrap (Int.ofNat m-Int.ofNat n)) (vI k (Nat.sub m n)) (Nat.ble n m)) (fun n=>k.wrap (Int.ofNat m-Int.negSucc n)) b)
  (fun m b=>k.wrap (Int.negSucc m-b)) a b
theorem aar (k:IntKind) (a b:Int):acI k a b=k.wrap (a-b):=by
 cases a with
 |ofNat m=>cases b with
  |ofNat n=>
   show Bool.rec (motive:=fun _=>Int) (k.wrap (Int.ofNat m-Int.ofNat n)) (vI k (Nat.sub m n)) (Nat.ble n m)=_
   cases h:Nat.ble n m with
   |false=>rfl
   |true=>
    have:=Nat.le_of_ble_eq_true h
    show vI k (m-n)=_
    rw [D6];congr 1
    show ((m-n:Nat):Int)=(m:Int)-(n:Int)
    omega
  |negSucc n=>rfl
 |negSucc m=>rfl
abbrev IO3:=IntKind→Int→Int→Option Value
def Xp (op:BinOp):IO3:=
 BinOp.rec (motive:=fun _=>IO3) (add:=fun k a b=>some (.int k (acH k a b))) (sub:=fun k a b=>some (.int k (acI k a b))) (mul:=fun _ _ _=>none) (quo:=fun _ _ _=>none) (rem:=fun _ _ _=>none)
  (and:=fun _ _ _=>none) (or:=fun _ _ _=>none) (xor:=fun _ _ _=>none) (shl:=fun _ _ _=>none) (shr:=fun _ _ _=>none) (andNot:=fun _ _ _=>none)
  (eql:=fun _ a b=>some (.bool (eqI a b))) (neq:=fun _ a b=>some (.bool (not (eqI a b)))) (lss:=fun _ a b=>some (.bool (ltI a b))) (leq:=fun _ a b=>some (.bool (not (ltI b a))))
  (gtr:=fun _ a b=>some (.bool (ltI b a))) (geq:=fun _ a b=>some (.bool (not (ltI a b)))) op
theorem Ue (op:BinOp) (k:IntKind) (a b:Int):Xp op k a b=Dj op k a b:=by
 cases op
 case add=>show some (Value.int k (acH k a b))=_;rw [aaq];rfl
 case sub=>show some (Value.int k (acI k a b))=_;rw [aar];rfl
 case eql=>show some (Value.bool (eqI a b))=_;rw [Xn];rfl
 case neq=>show some (Value.bool (not (eqI a b)))=_;rw [Xn];rfl
 case lss=>show some (Value.bool (ltI a b))=_;rw [I6];rfl
 case gtr=>show some (Value.bool (ltI b a))=_;rw [I6];rfl
 case leq=>
  show some (Value.bool (not (ltI b a)))=some (.bool (decide (a≤b)))
  rw [I6];congr 2
  rw [Bool.eq_iff_iff];simp
 case geq=>
  show some (Value.bool (not (ltI a b)))=some (.bool (decide (b≤a)))
  rw [I6];congr 2
  rw [Bool.eq_iff_iff];simp
 all_goals rfl
def Uf (a b:List UInt8):Bool:=
 List.rec (motive:=fun _=>List UInt8→Bool) (fun b=>List.rec (motive:=fun _=>Bool) true (fun _ _ _=>false) b)
  (fun x _ ih b=>List.rec (motive:=fun _=>Bool) false (fun y r _=>Bool.rec (motive:=fun _=>Bool) false (ih r) (Nat.beq x.toNat y.toNat)) b) a b
theorem I7:∀ (a b:List UInt8),Uf a b=(a==b)
 |[],[]=>rfl
 |[],_::_=>rfl
 |_::_,[]=>rfl
 |x::a,y::b=>by
  show Bool.rec (motive:=fun _=>Bool) false (Uf a b) (Nat.beq x.toNat y.toNat)=_
  rw [I7 a b]
  have e:Nat.beq x.toNat y.toNat=(x==y):=by rw [Bool.eq_iff_iff,Nat.beq_eq,beq_iff_eq,←UInt8.toNat_inj]
  rw [e]
  show _=((x==y)&&(a==b))
  cases (x==y)<;>rfl
theorem toList_data (s:ByteArray):s.toList=s.data.toList:=ByteArray.toList_eq s
end Go.CE
namespace Go.CE
open Go Go.RowKit
theorem L9 (vs:List Value):∀ (k:Nat) (cs:List Value),putAt cs k vs=if k+vs.length≤cs.length then some (cs.take k++vs++cs.drop (k+vs.length)) else none
 |0,cs=>by
  have e:putAt cs 0 vs=bif Nat.ble vs.length cs.length then some (vs++cs.drop vs.length) else none:=by cases cs<;>rfl
  rw [e,Nat.zero_add]
  by_cases h:vs.length≤cs.length
  ·rw [if_pos h,Nat.ble_eq_true_of_le h];rfl
  ·rw [if_neg h]
   have:Nat.ble vs.length cs.length=false:=by
    cases hb:Nat.ble vs.length cs.length with
    |false=>rfl
    |true=>exact absurd (Nat.le_of_ble_eq_true hb) h
   rw [this];rfl
 |k+1,[]=>by
  rw [if_neg (by simp only [List.length_nil];omega)];rfl
 |k+1,c::cs=>by
  have e:putAt (c::cs) (k+1) vs=(match putAt cs k vs with|some r=>some (c::r)|none=>none):=rfl
  rw [e,L9 vs k cs]
  by_cases h:k+vs.length≤cs.length
  ·rw [if_pos h,if_pos (by simp only [List.length_cons];omega)]
   simp only [List.take_succ_cons,List.cons_append]
   rw [show k+1+vs.length=k+vs.length+1 by omega,List.drop_succ_cons]
  ·rw [if_neg h,if_neg (by simp only [List.length_cons];omega)]
theorem Ma (off:Nat):∀ (vs:List Value) (n:Nat) (cs:Array Value),off+n+vs.length≤cs.size→
 ((vs.zipIdx n).foldl (fun cs p=>cs.setIfInBounds (off+p.2) p.1) cs).toList=cs.toList.take (off+n)++vs++cs.toList.drop (off+n+vs.length)
 |[],n,cs,h=>by simp
 |v::vs,n,cs,h=>by
  rw [List.length_cons] at h
  rw [List.zipIdx_cons,List.foldl_cons,Ma off vs (n+1) _ (by rw [Array.size_setIfInBounds];omega)]
  rw [Array.toList_setIfInBounds,List.set_eq_take_append_cons_drop,if_pos (by rw [Array.length_toList];omega)]
  have hl:(cs.toList.take (off+n)).length=off+n:=by rw [List.length_take,Array.length_toList];omega
  have e:cs.toList.take (off+n)++v::cs.toList.drop (off+n+1)=(cs.toList.take (off+n)++[v])++cs.toList.drop (off+n+1):=by simp
  have hl2:(cs.toList.take (off+n)++[v]).length=off+(n+1):=by rw [List.length_append,hl];rfl
  rw [e,List.take_left' hl2,List.length_cons]
  have hd:List.drop (off+(n+1)+vs.length) ((cs.toList.take (off+n)++[v])++cs.toList.drop (off+n+1))=cs.toList.drop (off+n+(vs.length+1)):=by
   rw [List.drop_append,hl2,List.drop_eq_nil_of_le (by rw [hl2];omega),List.nil_append,List.drop_drop]
   congr 1;omega
  rw [hd]
  simp
def Bv (place:Nat→Option (Nat×Nat)) (l:List (Nat×Value)):List Value→Option (List Value):=
 List.rec (motive:=fun _=>List Value→Option (List Value)) (fun cs=>some cs)
  (fun p _ ih cs=>Option.rec (motive:=fun _=>Option (List Value)) none
    (fun q=>Bool.rec (motive:=fun _=>Option (List Value)) none (Option.rec (motive:=fun _=>Option (List Value)) none (fun cs'=>ih cs') (xh q.1 p.2.cells.toList cs)) (Nat.beq p.2.cells.toList.length q.2)) (place p.1)) l
theorem D7 (place:Nat→Option (Nat×Nat)):∀ (l:List (Nat×Value)) (cs:Array Value),Bv place l cs.toList=(Instr.fill place cs l).map Array.toList
 |[],cs=>rfl
 |(i,v)::rest,cs=>by
  have e:Bv place ((i,v)::rest) cs.toList=Option.rec (motive:=fun _=>Option (List Value)) none
   (fun q=>Bool.rec (motive:=fun _=>Option (List Value)) none (Option.rec (motive:=fun _=>Option (List Value)) none (fun cs'=>Bv place rest cs') (xh q.1 v.cells.toList cs.toList)) (Nat.beq v.cells.toList.length q.2)) (place i):=rfl
  rw [e]
  simp only [Instr.fill]
  cases hp:place i with
  |none=>rfl
  |some q=>
   obtain ⟨off,size⟩:=q
   simp only
   have hz:v.cells.toList.length=v.cells.size:=Array.length_toList
   cases hb:Nat.beq v.cells.toList.length size with
   |false=>
    have:v.cells.size≠size:=fun h=>by rw [hz,h,Nat.beq_refl] at hb;cases hb
    rw [if_pos (by simp [this])];rfl
   |true=>
    have hs:v.cells.size=size:=by rw [←hz];exact Nat.eq_of_beq_eq_true hb
    show Option.rec (motive:=fun _=>Option (List Value)) none (fun cs'=>Bv place rest cs') (xh off v.cells.toList cs.toList)=_
    rw [Aj,L9,hz,Array.length_toList]
    by_cases h:off+v.cells.size≤cs.size
    ·rw [if_pos h,if_neg (by simp only [Bool.or_eq_true,decide_eq_true_eq];omega)]
     show Bv place rest (cs.toList.take off++v.cells.toList++cs.toList.drop (off+v.cells.size))=_
     have hf:=Ma off v.cells.toList 0 cs (by rw [hz];omega)
     rw [Nat.add_zero,hz] at hf
     rw [←hf,D7 place rest]
     congr 2
     rw [←Array.foldl_toList,Array.toList_zipIdx]
    ·rw [if_neg h,if_pos (by simp only [Bool.or_eq_true,decide_eq_true_eq];omega)];rfl
variable {P:Program} {G:Nat}
def Xq {α:Type} (l:List α) (k:Nat):List α:=
 Nat.rec (motive:=fun _=>List α) l (fun _ ih=>List.rec (motive:=fun _=>List α) [] (fun _ t _=>t) ih) k
theorem Mc {α:Type} (l:List α):∀ k:Nat,Xq l k=l.drop k
 |0=>rfl
 |k+1=>by
  show List.rec (motive:=fun _=>List α) [] (fun _ t _=>t) (Xq l k)=_
  rw [Mc l k,←List.tail_drop]
  cases l.drop k<;>rfl
def aas {α:Type} (l:List α) (k:Nat):Option α:=List.rec (motive:=fun _=>Option α) none (fun a _ _=>some a) (Xq l k)
theorem Rv {α:Type} (l:List α) (k:Nat):aas l k=l[k]? :=by
 unfold aas
 rw [Mc,←List.head?_drop]
 cases l.drop k<;>rfl
def fnF (P:Program) (g:FuncId):Option Func:=aas P.funcs.toList g
theorem Pm (g:FuncId):fnF P g=P.funcs[g]? :=by unfold fnF;rw [Rv,Array.getElem?_toList]
def Bz (P:Program) (t:TypeId):Option TypeInfo:=Option.rec (motive:=fun _=>Option TypeInfo) (P.info? t) (fun i=>some i) (aas P.types.toList t)
theorem qC (t:TypeId):Bz P t=P.info? t:=by
 unfold Bz
 rw [Rv,Array.getElem?_toList]
 cases h:P.types[t]? with
 |none=>rfl
 |some i=>
  show some i=_
  have hlt:t<P.types.size:=(Array.getElem?_eq_some_iff.1 h).1
  unfold Tables.info?
  rw [if_pos hlt,h]
def acJ (P:Program) (i:TypeInfo):Option TypeDesc:=
 match i.desc with
 | .named _ u=>(Bz P u).map (·.desc)
 |d=>some d
def ig (P:Program) (t:TypeId):Option TypeDesc:=Option.rec (motive:=fun _=>Option TypeDesc) none (fun i=>acJ P i) (Bz P t)
theorem bU (t:TypeId):ig P t=P.underlying t:=by
 unfold ig Program.underlying
 rw [qC]
 cases P.info? t with
 |none=>rfl
 |some i=>
  obtain ⟨d,n1,n2,n3,n4,n5,n6,n7,n8,n9⟩:=i
  show acJ P ⟨d,n1,n2,n3,n4,n5,n6,n7,n8,n9⟩=_
  unfold acJ
  cases d<;>first|rfl|simp only [qC]
def jf (P:Program) (t:TypeId):Option Nat:=Option.rec (motive:=fun _=>Option Nat) none (fun i=>some i.size) (Bz P t)
theorem fu (t:TypeId):jf P t=dU P t:=by
 unfold jf dU
 rw [qC]
 cases P.info? t<;>rfl
def yR (P:Program) (t:TypeId):Option Value:=
 match (Bz P t).bind (·.zero) with
 |some v=>bif af 6 v then some v else none
 |none=>none
theorem oo (t:TypeId):yR P t=mI P t:=by unfold yR mI;rw [qC];rfl
def Xr (P:Program) (t:TypeId):Option Bool:=
 match ig P t with
 |some (.struct _)|some (.array _ _)=>some true
 |some _=>some false
 |none=>none
theorem I8 (t:TypeId):Xr P t=tY P t:=by unfold Xr tY;rw [bU];rfl
theorem Pn:((fun l:List Value=>Value.agg l.toArray)∘Array.toList)=Value.agg:=rfl
def Xt (size n:Nat) (z:Value) (l:List (Nat×Value)):Option (List Value):=
 bif Nat.ble n 16777216&&Nat.blt 0 size&&Nat.beq z.cells.size size then Bv (fun i=>some (i*size,size)) l ((List.range n).map (z.cells[· %z.cells.size]!)) else none
theorem Xu (size n:Nat) (z:Value) (l:List (Nat×Value)):Xt size n z l=(K3 size n z l).map Array.toList:=by
 unfold Xt K3
 rw [←Array.toList_range,←Array.toList_map,D7]
 cases (Nat.ble n 16777216&&Nat.blt 0 size&&Nat.beq z.cells.size size)<;>rfl
def partT (P:Program) (t:TypeId) (cs:List Value) (off:Nat):Option Value:=
 match Xr P t,jf P t with
 |some true,some n=>(takeN n (cs.drop off)).map fun l=> .agg l.toArray
 |some false,_=>cs[off]?
 |_,_=>none
theorem Md (t:TypeId) (cs:List Value) (off:Nat):partT P t cs off=Gs P t cs off:=by
 unfold partT Gs
 simp only [fu,I8]
 try rfl
def sliceT (P:Program) (t:TypeId) (x:Value) (lo hi mx:Option (Option Value)):Option Value:=
 match ig P t,x with
 |some (.array n elem),.pointer (some ⟨i,k,none⟩)=>
  match lI n n lo hi mx,jf P elem with
  |some (l,h,m),some size=>some (.slice (some ⟨i,bif Nat.beq m l then k else k+l*size,none⟩) (h-l) (rJ (m-l)))
  |_,_=>none
 |some (.slice elem),.slice (some ⟨i,k,none⟩) len c=>
  match lI len (jK c) lo hi mx,jf P elem with
  |some (l,h,m),some size=>
   bif iO c||mx.isSome then some (.slice (some ⟨i,bif Nat.beq m l then k else k+l*size,none⟩) (h-l) (rJ (m-l)))
   else bif (Nat.beq l 0||Nat.blt l m)&&Nat.beq size (lH c) then some (.slice (some ⟨i,k+l*size,none⟩) (h-l) (mH (m-l) size))
   else none
  |_,_=>none
 |some (.slice elem),.slice none len c=>
  match lI len c lo hi mx,jf P elem with
  |some (l,h,m),some _=>some (.slice none (h-l) (m-l))
  |_,_=>none
 |_,_=>none
theorem Ug (t:TypeId) (x:Value) (lo hi mx:Option (Option Value)):sliceT P t x lo hi mx=Dh P t x lo hi mx:=by
 unfold sliceT Dh
 simp only [bU,fu]
 try rfl
def Po (P:Program) (id:Nat) (elem:TypeId):Option (Value×aJ):=
 match yR P elem with
 |some z=>some (.pointer (some ⟨id,0,none⟩),.cells z.cells.toList)
 |none=>none
theorem Uh (id:Nat) (elem:TypeId):Po P id elem=Di P id elem:=by
 unfold Po Di
 simp only [oo]
 try rfl
def uE (P:Program) (G:Nat) (tm:TV) (id:Nat) (t:TypeId) (len:Nat) (parts:Array (Nat×Operand)):Option (Value×aJ):=
 match ig P t,dY G tm (parts.toList.map (·.2)) with
 |some (.slice elem),some vs=>
  match jf P elem,yR P elem with
  |some size,some z=>Option.rec (motive:=fun _=>Option (Value×aJ)) none (fun cells=>some (.slice (some ⟨id,0,none⟩) len (rJ len),.cells cells)) (Xt size (len*size) z ((parts.toList.map (·.1)).zip vs))
  |_,_=>none
 |_,_=>none
theorem D8 (tm:TV) (id:Nat) (t:TypeId) (len:Nat) (parts:Array (Nat×Operand)):uE P G tm id t len parts=j3 P G tm id t len parts:=by
 unfold uE j3
 simp only [bU,fu,oo,Xu]
 cases P.underlying t with
 |none=>rfl
 |some d=>
  cases dY G tm (parts.toList.map (·.2)) with
  |none=>cases d<;>rfl
  |some vs=>
   cases d with
   |slice elem=>
    simp only
    cases dU P elem with
    |none=>rfl
    |some size=>
     cases mI P elem with
     |none=>rfl
     |some z=>
      simp only
      cases K3 size (len*size) z ((parts.toList.map (·.1)).zip vs)<;>rfl
   |_=>rfl
def D9 (P:Program) (G:Nat) (tm:TV) (id:Nat) (t:TypeId) (r:Option Operand):Option (Value×aJ):=
 match r with
 |none=>some (.map (some id),.map [] 0)
 |some r=>match ig P t,ax G tm r with
  |some (.map _ _),some (.int _ _)=>some (.map (some id),.map [] 0)
  |_,_=>none
theorem Me (tm:TV) (id:Nat) (t:TypeId) (r:Option Operand):D9 P G tm id t r=qg P G tm id t r:=by
 unfold D9 qg
 simp only [bU]
 try rfl
def xk (P:Program) (G:Nat) (tm:TV) (id:Nat) (t:TypeId) (l c:Operand):Option (Value×aJ):=
 match ig P t,ax G tm l,ax G tm c with
 |some (.slice elem),some (.int _ l),some (.int _ c)=>
  match jf P elem,yR P elem with
  |some size,some z=>
   bif decide (0≤l)&&decide (l≤c)&&decide (c≤1048576)&&Nat.ble ((Bz P elem).elim 0 (·.bytes)) 1048576 then Iz id l.toNat c.toNat size z else none
  |_,_=>none
 |_,_,_=>none
theorem FP (tm:TV) (id:Nat) (t:TypeId) (l c:Operand):xk P G tm id t l c=kX P G tm id t l c:=by
 unfold xk kX
 simp only [bU,fu,oo,qC]
 try rfl
def BZ (P:Program):List Field→Option (List (Nat×Nat))
 |[]=>some []
 |f::r=>match jf P f.type,BZ P r with
  |some s,some l=>some ((f.offset,s)::l)
  |_,_=>none
theorem Ea:∀ l,BZ P l=mP P l
 |[]=>rfl
 |f::r=>by simp only [BZ,mP,fu,Ea r];rfl
def Pp (P:Program) (G:Nat) (tm:TV) (t:TypeId) (parts:Array (Nat×Operand)):Option Value:=
 match yR P t,ig P t,dY G tm (parts.toList.map (·.2)) with
 |some z,some (.struct fields),some vs=>
  match BZ P fields.toList with
  |some places=>(Bv (fun i=>LZ places i) ((parts.toList.map (·.1)).zip vs) z.cells.toList).map fun l=> .agg l.toArray
  |none=>none
 |some z,some (.array _ elem),some vs=>
  match jf P elem with
  |some size=>(Bv (fun i=>some (i*size,size)) ((parts.toList.map (·.1)).zip vs) z.cells.toList).map fun l=> .agg l.toArray
  |none=>none
 |_,_,_=>none
theorem Ui (tm:TV) (t:TypeId) (parts:Array (Nat×Operand)):Pp P G tm t parts=zP P G tm t parts:=by
 unfold Pp zP
 simp only [bU,fu,oo,Ea,D7,I5,Option.map_map,Pn]
 try rfl
def I9 (P:Program) (t:TypeId) (a b:Value):Bool:=
 match a,b with
 | .slice (some _) _ _,.slice none _ _| .slice none _ _,.slice (some _) _ _=>match ig P t with|some (.slice _)=>true|_=>false
 | .pointer (some _),.pointer none| .pointer none,.pointer (some _)=>match ig P t with|some (.pointer _)=>true|_=>false
 | .func (.func _) _ _,.nilFunc=>match ig P t with|some (.func _ _ _)=>true|_=>false
 | .map (some _),.map none=>match ig P t with|some (.map _ _)=>true|_=>false
 |_,_=>false
theorem Uj (t:TypeId) (a b:Value):I9 P t a b=Bj P t a b:=by
 unfold I9 Bj
 simp only [bU]
 try rfl
def uF (P:Program) (op:BinOp) (t:TypeId) (x y:Operand) (a b:Value):Option Value:=
 bif af 6 a&&af 6 b then Zw (di P (do eqGuard op t x y a b;binOp op t a b))
 else match op with
  | .eql=>bif I9 P t a b then some (.bool false) else none
  | .neq=>bif I9 P t a b then some (.bool true) else none
  |_=>none
theorem Mf (op:BinOp) (t:TypeId) (x y:Operand) (a b:Value):uF P op t x y a b=lJ P op t x y a b:=by
 unfold uF lJ
 simp only [Uj]
 try rfl
def rH (P:Program) (h:H) (e:TypeId) (i k len:Nat):Option Value:=
 match ig P e,h.read i k len with
 |some (.int .u8),some l=>(bytesOf l).map fun l=> .string ⟨l.toArray⟩
 |_,_=>none
theorem Xv (h:H) (e:TypeId) (i k len:Nat):rH P h e i k len=Rf P h e i k len:=by
 unfold rH Rf
 simp only [bU]
 try rfl
def Eb (P:Program) (G:Nat) (tm:TV) (h:H) (s d:TypeId) (x:Operand):Option Value:=
 match ax G tm x with
 |some a=>
  bif af 6 a then Zw (di P (convert s d a))
  else match ig P s,ig P d,a with
   |some (.slice e),some .string,.slice (some ⟨i,k,none⟩) len _=>rH P h e i k len
   |some (.pointer t),some .unsafePointer,.pointer (some ⟨i,k,none⟩)=>match jf P t,h.cells i with
    |some n,some cs=>bif Nat.blt 0 n&&Nat.blt k cs.length then some a else none
    |_,_=>none
   |_,_,_=>none
 |none=>none
theorem Mg (tm:TV) (h:H) (s d:TypeId) (x:Operand):Eb P G tm h s d x=qi P G tm h s d x:=by
 unfold Eb qi
 simp only [bU,fu,Xv]
 try rfl
def oq (P:Program) (G:Nat) (tm:TV) (t:TypeId) (x:Operand):Option Value:=
 match ig P t,ax G tm x with
 |some (.interface _),_=>none
 |some _,some v=>some (.iface t v)
 |_,_=>none
theorem yS (tm:TV) (t:TypeId) (x:Operand):oq P G tm t x=gD P G tm t x:=by
 unfold oq gD
 simp only [bU]
 try rfl
def Ja (P:Program) (G:Nat) (tm:TV) (t:TypeId) (x:Operand) (lo hi mx:Option Operand):Option Value:=
 match ax G tm x with
 |some (.string s)=>match ig P t,mx with
  |some .string,none=>match lI s.size s.size (lo.map (ax G tm)) (hi.map (ax G tm)) none with
   |some (l,h,_)=>some (.string (s.extract l h))
   |none=>none
  |_,_=>none
 |some a=>sliceT P t a (lo.map (ax G tm)) (hi.map (ax G tm)) (mx.map (ax G tm))
 |none=>none
theorem Pq (tm:TV) (t:TypeId) (x:Operand) (lo hi mx:Option Operand):Ja P G tm t x lo hi mx=zR P G tm t x lo hi mx:=by
 unfold Ja zR
 simp only [bU,Ug]
 try rfl
def xm (P:Program) (G:Nat) (tm:TV) (s:TypeId) (x:Operand) (f:Nat):Option Value:=
 match ig P s,ax G tm x with
 |some (.struct fields),some (.pointer (some ⟨i,k,none⟩))=>match fields[f]? with
  |some f=>match jf P f.type with
   |some n=>bif Nat.blt 0 n then some (.pointer (some ⟨i,k+f.offset,none⟩)) else none
   |none=>none
  |none=>none
 |_,_=>none
theorem FQ (tm:TV) (s:TypeId) (x:Operand) (f:Nat):xm P G tm s x f=iX P G tm s x f:=by
 unfold xm iX
 simp only [bU,fu]
 try rfl
def Pt (P:Program) (G:Nat) (tm:TV) (s:TypeId) (x:Operand) (f:Nat):Option Value:=
 match ig P s,ax G tm x with
 |some (.struct fields),some (.agg cs)=>match fields[f]? with
  |some f=>partT P f.type cs.toList f.offset
  |none=>none
 |_,_=>none
theorem Uk (tm:TV) (s:TypeId) (x:Operand) (f:Nat):Pt P G tm s x f=zS P G tm s x f:=by
 unfold Pt zS
 simp only [bU,Md]
 try rfl
def Jb (P:Program) (G:Nat) (tm:TV) (h:H) (t:TypeId) (x ix:Operand) (ok:Bool):Option Value:=
 match ig P t,ax G tm x,ax G tm ix with
 |some (.map kt et),some m,some k=>
  match ym h m with
  |none=>none
  |some es=>match oO P es.isEmpty kt k es with
   |some (some i)=>match es[i]? with
    |some e=>some (bif ok then .tuple #[e.val,.bool true] else e.val)
    |none=>none
   |some none=>match yR P et with
    |some z=>some (bif ok then .tuple #[z,.bool false] else z)
    |none=>none
   |none=>none
 |_,_,_=>none
theorem Pv (tm:TV) (h:H) (t:TypeId) (x ix:Operand) (ok:Bool):Jb P G tm h t x ix ok=vv P G tm h t x ix ok:=by
 unfold Jb vv
 simp only [bU,oo]
 try rfl
def acK (P:Program) (G:Nat) (tm:TV) (h:H) (t:TypeId) (x:Operand):Option Value:=
 match ig P t,ax G tm x with
 |some .string,some (.string s)=>some (.int .i64 s.size)
 |some (.slice _),some (.slice _ n _)=>some (.int .i64 n)
 |some (.array n _),some _=>some (.int .i64 n)
 |some (.map _ _),some (.map none)=>some (.int .i64 0)
 |some (.map _ _),some (.map (some r))=>match h.hp.get r with|some (.map es _)=>some (.int .i64 es.length)|_=>none
 |_,_=>none
theorem aat (tm:TV) (h:H) (t:TypeId) (x:Operand):acK P G tm h t x=Te P G tm h t x:=by
 unfold acK Te
 simp only [bU]
 try rfl
def acL (P:Program) (G:Nat) (tm:TV) (t:TypeId) (x:Operand):Option Value:=
 match ig P t,ax G tm x with
 |some (.slice _),some (.slice none _ n)=>some (.int .i64 n)
 |some (.slice _),some (.slice (some _) _ c)=>bif iO c then some (.int .i64 (jK c)) else none
 |_,_=>none
theorem aau (tm:TV) (t:TypeId) (x:Operand):acL P G tm t x=Tf P G tm t x:=by
 unfold acL Tf
 simp only [bU]
 try rfl
def Ec (P:Program) (G:Nat) (tm:TV) (h:H) (b:Builtin) (args:Array Operand) (ats:Array TypeId):Option Value:=
 match b with
 | .len=>match args.toList,ats.toList with|[x],[t]=>acK P G tm h t x|_,_=>none
 | .cap=>match args.toList,ats.toList with|[x],[t]=>acL P G tm t x|_,_=>none
 | .min=>qZ P G tm false ats args
 | .max=>qZ P G tm true ats args
 |_=>none
theorem Mh (tm:TV) (h:H) (b:Builtin) (args:Array Operand) (ats:Array TypeId):Ec P G tm h b args ats=ug P G tm h b args ats:=by
 unfold Ec ug
 simp only [aat,aau]
 try rfl
def Xw (P:Program) (G:Nat) (tm:TV) (h:H) (c:Call):Option Value:=
 match c.callee with
 | .builtin b=>Ec P G tm h b c.args c.argTypes
 |_=>none
theorem Xx (tm:TV) (h:H) (c:Call):Xw P G tm h c=Gt P G tm h c:=by
 unfold Xw Gt
 simp only [Mh]
 try rfl
def Jc (P:Program) (G:Nat) (h:H) (st xt:TypeId) (s x:Value):Option (Value×H):=
 match ig P st,ig P xt,s,Tg x with
 |some (.slice _),some (.int _),_,_=>none
 |some (.slice elem),some _,.slice base sLen c,some n=>
  match jf P elem,yR P elem with
  |some size,some z=>
   bif Nat.beq z.cells.size size&&Nat.blt 0 size&&Nat.ble (sLen+n) 1048576&&Nat.ble ((Bz P elem).elim 0 (·.bytes)) 1048576 then
    match cellsOf h size n x with
    |some new=>bif Nat.beq new.length (n*size) then yu G h size n new base sLen c else none
    |none=>none
   else none
  |_,_=>none
 |_,_,_,_=>none
theorem Pw (h:H) (st xt:TypeId) (s x:Value):Jc P G h st xt s x=yw P G h st xt s x:=by
 unfold Jc yw
 simp only [bU,fu,oo,qC]
 try rfl
def Ak (P:Program) (G:Nat) (tm:TV) (h:H) (s d:TypeId) (x:Operand):Option LR:=
 match ig P s,ig P d,ax G tm x with
 |some .string,some (.slice e),some (.string b)=>match ig P e with
  |some (.int .u8)=>bif Nat.ble b.size 1048576 then some (.val (.slice (some ⟨h.nx,0,none⟩) b.size (mH b.size 1)) (h.new (.cells (b.data.toList.map fun c=> .int .u8 c.toNat)))) else none
  |_=>none
 |some (.slice _),some (.slice e),some (.slice (some ⟨i,k,none⟩) len c)=>match ig P e,h.cells i with
  |some (.int .u8),some cs=>bif Nat.beq s d&&Nat.ble G i then some (.val (.slice (some ⟨i,k,none⟩) len c) (h.put i (some (.cells cs)))) else none
  |_,_=>none
 |_,_,_=>none
theorem Jd (tm:TV) (h:H) (s d:TypeId) (x:Operand):Ak P G tm h s d x=ql P G tm h s d x:=by
 unfold Ak ql
 simp only [bU]
 try rfl
def rz (P:Program) (G:Nat) (tm:TV) (h:H) (t:TypeId) (m k x:Operand):Option LR:=
 match ig P t,(ax G tm m).bind (mapA G h),ax G tm k,ax G tm x with
 |some (.map kt _),some (r,es,clock),some k,some x=>
  match oO P false kt k es with
  |some (some i)=>match es[i]? with
   |some e=>bif Instr.sameBits 10000 e.key k then some (.val undef (h.put r (some (.map (es.set i {e with key:=k,val:=x}) clock)))) else none
   |none=>none
  |some none=>some (.val undef (h.put r (some (.map (es++[{key:=k,val:=x,born:=clock}]) (clock+1)))))
  |none=>none
 |_,_,_,_=>none
theorem wJ (tm:TV) (h:H) (t:TypeId) (m k x:Operand):rz P G tm h t m k x=iY P G tm h t m k x:=by
 unfold rz iY
 simp only [bU]
 try rfl
def Al (P:Program) (G:Nat) (tm:TV) (h:H) (t:TypeId) (m k:Operand):Option LR:=
 match ig P t,(ax G tm m).bind (mapA G h),ax G tm k with
 |some (.map kt et),some (r,es,clock),some k=>
  match oO P false kt k es,yR P et with
  |some (some i),_=>match es[i]? with
   |some e=>bif Instr.sameBits 10000 e.key k then
     some (.val (.tuple #[e.val,.int .i64 e.born]) (h.put r (some (.map (es.set i {e with key:=k}) clock)))) else none
   |none=>none
  |some none,some z=>some (.val (.tuple #[z,.int .i64 clock]) (h.put r (some (.map (es++[{key:=k,val:=z,born:=clock}]) (clock+1)))))
  |_,_=>none
 |_,_,_=>none
theorem Je (tm:TV) (h:H) (t:TypeId) (m k:Operand):Al P G tm h t m k=nu P G tm h t m k:=by
 unfold Al nu
 simp only [bU,oo]
 try rfl
def Px (P:Program) (G:Nat) (tm:TV) (h:H) (t:TypeId) (x:Operand):Option LR:=
 match ig P t,ax G tm x with
 |some .string,some (.string s)=>some (.val (.pointer (some ⟨h.nx,0,none⟩)) (h.new (.text s 0)))
 |some (.map _ _),some (.map none)=>some (.val (.pointer (some ⟨h.nx,0,none⟩)) (h.new (.walk none 0 [] 0)))
 |some (.map _ _),some (.map (some m))=>match h.hp.get m with
  |some (.map _ clock)=>some (.val (.pointer (some ⟨h.nx,0,none⟩)) (h.new (.walk (some m) clock [] clock)))
  |_=>none
 |_,_=>none
theorem Ul (tm:TV) (h:H) (t:TypeId) (x:Operand):Px P G tm h t x=zW P G tm h t x:=by
 unfold Px zW
 simp only [bU]
 try rfl
def Xy (P:Program) (G:Nat) (h:H) (g:FuncId) (args:List Value):Option LR:=
 match fnF P g with
 |some fn=>
  match fn.body with
  |some _=>some (.enter g args)
  |none=>match vw P h g args with
   |some r=>some r
   |none=>bif Nat.blt P.globals.size G&&fn.origin== "" then Dm P G h fn args else none
 |none=>none
theorem Xz (h:H) (g:FuncId) (args:List Value):Xy P G h g args=Gu P G h g args:=by
 unfold Xy Gu
 simp only [Pm]
 try rfl
def Py (P:Program) (G:Nat) (tm:TV) (h:H) (f:Operand) (args:Array Operand):Option LR:=
 match ax G tm f,dY G tm args.toList with
 |some (.func fn first captured),some args=>match fn with
  | .func g=>Xy P G h g (first.toList++args++captured.toList)
  | .yield l=>bif first.isEmpty&&captured.isEmpty then some (.round l args) else none
  |_=>none
 |_,_=>none
theorem Um (tm:TV) (h:H) (f:Operand) (args:Array Operand):Py P G tm h f args=Bl P G tm h f args:=by
 unfold Py Bl
 simp only [Xz]
 try rfl
def XA (P:Program) (G:Nat) (h:H) (t:TypeId) (d x:Value):Option LR:=
 match ig P t,d,Tg x with
 |some (.slice elem),.slice base dLen _,some n=>match jf P elem with
  |some size=>match cellsOf h size (min n dLen) x,base with
   |some new,some ⟨i,k,none⟩=>match h.write G i k new with|some h'=>some (LR.val (.int .i64 (min n dLen:Nat)) h')|none=>none
   |some [],none=>some (.val (.int .i64 (min n dLen:Nat)) h)
   |_,_=>none
  |none=>none
 |_,_,_=>none
theorem XC (h:H) (t:TypeId) (d x:Value):XA P G h t d x=Gv P G h t d x:=by
 unfold XA Gv
 simp only [bU,fu]
 try rfl
def Jf (P:Program) (G:Nat) (h:H) (t:TypeId) (m k:Value):Option LR:=
 match ig P t,mapA G h m with
 |some (.map kt _),some (r,es,clock)=>
  match oO P es.isEmpty kt k es with
  |some (some i)=>some (.val (.tuple #[]) (h.put r (some (.map (es.eraseIdx i) clock))))
  |some none=>some (.val (.tuple #[]) (h.put r (some (.map es clock))))
  |none=>none
 |_,_=>none
theorem Pz (h:H) (t:TypeId) (m k:Value):Jf P G h t m k=vz P G h t m k:=by
 unfold Jf vz
 simp only [bU]
 try rfl
def PD (P:Program) (G:Nat) (h:H) (t:TypeId) (m:Value):Option LR:=
 match ig P t,mapA G h m with
 |some (.map _ _),some (r,_,clock)=>some (.val (.tuple #[]) (h.put r (some (.map [] clock))))
 |_,_=>none
theorem Un (h:H) (t:TypeId) (m:Value):PD P G h t m=zX P G h t m:=by
 unfold PD zX
 simp only [bU]
 try rfl
def Am (P:Program) (G:Nat) (rd:Option Nat) (tm:TV) (h:H) (b:Builtin) (args:Array Operand) (ats:Array TypeId):Option LR:=
 match b,dY G tm args.toList,ats.toList with
 | .append,some [s,x],[t,u]=>match Jc P G h t u s x with|some (v,h')=>some (.val v h')|none=>none
 | .copy,some [d,x],t::_=>XA P G h t d x
 | .delete,some [m,k],t::_=>Jf P G h t m k
 | .clear,some [m],t::_=>PD P G h t m
 | .recover,some [],_=>match rd with|none=>some .recover|some _=>none
 |_,_,_=>none
theorem Jg (rd:Option Nat) (tm:TV) (h:H) (b:Builtin) (args:Array Operand) (ats:Array TypeId):Am P G rd tm h b args ats=qm P G rd tm h b args ats:=by
 unfold Am qm
 simp only [Pw,XC,Pz,Un]
 try rfl
def Ed (P:Program) (G:Nat) (rd:Option Nat) (tm:TV) (h:H) (c:Call):Option LR:=
 match c.callee with
 | .value f=>Py P G tm h f c.args
 | .builtin b=>Am P G rd tm h b c.args c.argTypes
 |_=>none
theorem Mi (rd:Option Nat) (tm:TV) (h:H) (c:Call):Ed P G rd tm h c=uh P G rd tm h c:=by
 unfold Ed uh
 simp only [Um,Jg]
 try rfl
def Mj (P:Program):Op→Zx
 | .move _=> .reads
 | .assign _=> .reads
 | .pick .. => .reads
 | .build .. => .reads
 | .load .. => .reads
 | .nilCheck _=> .reads
 | .binOp .. => .reads
 | .unOp .. => .reads
 | .makeInterface .. => .reads
 | .makeFunc .. => .reads
 | .slice .. => .reads
 | .fieldAddr .. => .reads
 | .field .. => .reads
 | .indexAddr .. => .reads
 | .index .. => .reads
 | .lookup .. => .reads
 | .extract .. => .reads
 | .entry _=> .reads
 | .convert s d _=>match ig P s,ig P d with
   |some .string,some (.slice _)=> .acts
   |some (.slice _),some (.slice _)=> .acts
   |_,_=> .reads
 | .call c=>match c.callee with
   | .builtin b=>match b with
     | .len=> .reads
     | .cap=> .reads
     | .min=> .reads
     | .max=> .reads
     |_=> .acts
   |_=> .acts
 | .alloc _=> .makes
 | .box .. => .makes
 | .buildSlice .. => .makes
 | .makeMap .. => .makes
 | .makeSlice .. => .makes
 | .next .. => .next
 |_=> .acts
theorem Ca (op:Op):Mj P op=cls P op:=by cases op<;>first|rfl|(unfold Mj cls;simp only [bU];rfl)
end Go.CE
namespace Go.CE
open Go Go.RowKit
variable {P:Program} {G:Nat}
def PE (P:Program) (h:H) (t:TypeId) (i k:Nat):Option Value:=
 Option.rec (motive:=fun _=>Option Value) none
  (fun b=>Bool.rec (motive:=fun _=>Option Value)
    (Option.rec (motive:=fun _=>Option Value) none (fun l=>List.rec (motive:=fun _=>Option Value) none (fun v r _=>List.rec (motive:=fun _=>Option Value) (some v) (fun _ _ _=>none) r) l) (ai h i k 1))
    (Option.rec (motive:=fun _=>Option Value) none (fun n=>Option.rec (motive:=fun _=>Option Value) none (fun l=>some (.agg l.toArray)) (ai h i k n)) (jf P t)) b)
  (Xr P t)
theorem Uo (h:H) (t:TypeId) (i k:Nat):PE P h t i k=h.yj P t i k:=by
 unfold PE H.yj
 rw [I8,fu]
 cases hb:tY P t with
 |none=>cases dU P t<;>rfl
 |some b=>
  cases b with
  |false=>
   rw [D5]
   cases hs:dU P t<;>(cases hr:h.read i k 1 with
    |none=>rfl
    |some l=>cases l with
     |nil=>rfl
     |cons v r=>cases r<;>rfl)
  |true=>
   cases hs:dU P t with
   |none=>rfl
   |some n=>show Option.rec (motive:=fun _=>Option Value) none (fun l=>some (.agg l.toArray)) (ai h i k n)=(h.read i k n).map fun l=> .agg l.toArray
            rw [D5]
            cases h.read i k n<;>rfl
def XD (P:Program) (G:Nat) (tm:TV) (h:H) (t:TypeId) (x:Operand):Option Value:=
 match ax G tm x with
 |some (.pointer (some ⟨i,k,none⟩))=>PE P h t i k
 |_=>none
theorem XE (tm:TV) (h:H) (t:TypeId) (x:Operand):XD P G tm h t x=Bi P G tm h t x:=by
 unfold XD Bi
 simp only [Uo]
 rfl
def Rw (op:BinOp) (a b:ByteArray):Option Value:=
 BinOp.rec (motive:=fun _=>ByteArray→ByteArray→Option Value) (add:=fun _ _=>none) (sub:=fun _ _=>none) (mul:=fun _ _=>none) (quo:=fun _ _=>none) (rem:=fun _ _=>none)
  (and:=fun _ _=>none) (or:=fun _ _=>none) (xor:=fun _ _=>none) (shl:=fun _ _=>none) (shr:=fun _ _=>none) (andNot:=fun _ _=>none)
  (eql:=fun a b=>some (.bool (Uf a.data.toList b.data.toList))) (neq:=fun a b=>some (.bool (not (Uf a.data.toList b.data.toList)))) (lss:=fun _ _=>none) (leq:=fun _ _=>none)
  (gtr:=fun _ _=>none) (geq:=fun _ _=>none) op a b
theorem PG {op:BinOp} {t:TypeId} {x y:Operand} {a b:ByteArray} {v:Value} (h:Rw op a b=some v):lJ P op t x y (.string a) (.string b)=some v:=by
 cases op<;>first|cases h|skip
 ·show Zw (di P (pure (.bool (a.toList==b.toList))))=some (.bool (Uf a.data.toList b.data.toList))
  rw [I7,toList_data,toList_data];rfl
 ·show Zw (di P (pure (.bool (!(a.toList==b.toList)))))=some (.bool (not (Uf a.data.toList b.data.toList)))
  rw [I7,toList_data,toList_data];rfl
def Mk (P:Program) (op:BinOp) (t:TypeId) (x y:Operand) (a b:Value):Option Value:=
 match a,b with
 | .int k m,.int k' n=>match (bif decide (k=k') then Xp op k m n else none) with
   |some v=>some v
   |none=>uF P op t x y a b
 | .string s,.string s'=>match Rw op s s' with
   |some v=>some v
   |none=>uF P op t x y a b
 |_,_=>uF P op t x y a b
def PI (P:Program) (G:Nat) (tm:TV) (op:BinOp) (t:TypeId) (x y:Operand):Option Value:=
 Option.rec (motive:=fun _=>Option Value) none (fun a=>Option.rec (motive:=fun _=>Option Value) none (fun b=>Mk P op t x y a b) (ax G tm y)) (ax G tm x)
theorem GQ (tm:TV) (op:BinOp) (t:TypeId) (x y:Operand):PI P G tm op t x y=zQ P G tm op t x y:=by
 unfold PI zQ
 cases ax G tm x with
 |none=>rfl
 |some a=>
  cases ax G tm y with
  |none=>rfl
  |some b=>
   show Mk P op t x y a b=_
   unfold Mk
   simp only [Mf]
   split
   ·rename_i k m k' n
    show _=(match (bif decide (k=k') then Dj op k m n else none) with|some v=>some v|none=>_)
    rw [Ue]
   ·rename_i s s'
    show _=lJ P op t x y (.string s) (.string s')
    split
    ·rename_i v hv;exact (PG hv).symm
    ·rfl
   ·rename_i h1 h2
    show _=(match a,b with
     | .int k m,.int k' n=>match (bif decide (k=k') then Dj op k m n else none) with
       |some v=>some v
       |none=>lJ P op t x y a b
     |_,_=>lJ P op t x y a b)
    split
    ·rename_i k m k' n
     exact (h1 k m k' n rfl rfl).elim
    ·rfl
def Jh (P:Program) (elem:TypeId) (i k n:Nat) (j:Int):Option Value:=
 Option.rec (motive:=fun _=>Option Value) none
  (fun size=>Int.rec (motive:=fun _=>Option Value) (fun m=>Bool.rec (motive:=fun _=>Option Value) none (some (.pointer (some ⟨i,Nat.add k (Nat.mul m size),none⟩))) (Nat.blt m n)) (fun _=>none) j) (jf P elem)
theorem Uq (elem:TypeId) (i k n:Nat) (j:Int):Jh P elem i k n j=zT P elem i k n j:=by
 unfold Jh zT
 rw [fu]
 cases dU P elem with
 |none=>rfl
 |some size=>
  cases j with
  |ofNat m=>
   show Bool.rec (motive:=fun _=>Option Value) none (some (.pointer (some ⟨i,Nat.add k (Nat.mul m size),none⟩))) (Nat.blt m n)=bif decide (0≤Int.ofNat m)&&decide (Int.ofNat m<n) then some (.pointer (some ⟨i,k+(Int.ofNat m).toNat*size,none⟩)) else none
   have e:(decide (0≤Int.ofNat m)&&decide (Int.ofNat m<n))=Nat.blt m n:=by
    rw [Bool.eq_iff_iff,Nat.blt_eq];simp
   rw [e]
   cases Nat.blt m n<;>rfl
  |negSucc m=>
   show none=bif decide (0≤Int.negSucc m)&&decide (Int.negSucc m<n) then some (Value.pointer (some ⟨i,k+(Int.negSucc m).toNat*size,none⟩)) else none
   have e:decide (0≤Int.negSucc m)=false:=by rw [decide_eq_false_iff_not];have:=Int.negSucc_lt_zero m;omega
   rw [e];rfl
def xu (P:Program) (G:Nat) (tm:TV) (t:TypeId) (x ix:Operand):Option Value:=
 match ig P t,ax G tm x,ax G tm ix with
 |some (.array n elem),some (.pointer (some ⟨i,k,none⟩)),some (.int _ j)=>Jh P elem i k n j
 |some (.slice elem),some (.slice (some ⟨i,k,none⟩) n _),some (.int _ j)=>Jh P elem i k n j
 |_,_,_=>none
theorem FR (tm:TV) (t:TypeId) (x ix:Operand):xu P G tm t x ix=kY P G tm t x ix:=by
 unfold xu kY
 simp only [Uq,bU]
 rfl
def XF (s:ByteArray) (j:Int):Option Value:=
 Int.rec (motive:=fun _=>Option Value) (fun m=>Option.rec (motive:=fun _=>Option Value) none (fun b=>some (.int .u8 (Int.ofNat b.toNat))) (LZ s.data.toList m)) (fun _=>none) j
theorem Ur (s:ByteArray) (j:Int):XF s j=bif decide (0≤j) then (match s.data.toList[j.toNat]? with|some b=>some (.int .u8 b.toNat)|none=>none) else none:=by
 cases j with
 |ofNat m=>
  show Option.rec (motive:=fun _=>Option Value) none (fun b=>some (.int .u8 (Int.ofNat b.toNat))) (LZ s.data.toList m)=_
  rw [I5]
  have e:decide ((0:Int)≤Int.ofNat m)=true:=by simp
  rw [e,cond_true]
  show _=(match s.data.toList[m]? with|some b=>some (Value.int .u8 b.toNat)|none=>none)
  cases s.data.toList[m]? <;>rfl
 |negSucc m=>
  have e:decide ((0:Int)≤Int.negSucc m)=false:=by rw [decide_eq_false_iff_not];have:=Int.negSucc_lt_zero m;omega
  rw [e];rfl
def PK (P:Program) (G:Nat) (tm:TV) (t:TypeId) (x ix:Operand):Option Value:=
 match ig P t,ax G tm x,ax G tm ix with
 |some .string,some (.string s),some (.int _ j)=>XF s j
 |some (.array n elem),some (.agg cs),some (.int _ j)=>match jf P elem with
  |some size=>bif decide (0≤j)&&decide (j<n) then partT P elem cs.toList (j.toNat*size) else none
  |none=>none
 |_,_,_=>none
theorem Us (tm:TV) (t:TypeId) (x ix:Operand):PK P G tm t x ix=zU P G tm t x ix:=by
 unfold PK zU
 simp only [Ur,bU,fu,Md]
 rfl
abbrev AN:=Program→Nat→TV→H→Option Value
def yT (op:Op):AN:=
 Op.rec (motive:=fun _=>AN)
  (move:=fun x _ G tm _=>ax G tm x) (assign:=fun x _ G tm _=>ax G tm x) (pick:=fun c a b _ G tm _=>K4 G tm c a b) (alloc:=fun _ _ _ _ _=>none) (box:=fun _ _ _ _ _ _=>none)
  (build:=fun t parts P G tm _=>Pp P G tm t parts) (buildSlice:=fun _ _ _ _ _ _ _=>none) (insert:=fun _ _ _ _ _ _ _ _=>none) (load:=fun t x P G tm h=>XD P G tm h t x) (store:=fun _ _ _ _ _ _ _=>none)
  (ready:=fun _ _ _ _ _=>none) (waits:=fun _ _ _ _ _=>none) (nilCheck:=fun x _ G tm _=>qh G tm x) (binOp:=fun op t x y _ P G tm _=>PI P G tm op t x y) (unOp:=fun op _ x P G tm _=>K5 P G tm op x)
  (convert:=fun s d x P G tm h=>Eb P G tm h s d x) (sliceToArrayPointer:=fun _ _ _ _ _ _=>none) (makeInterface:=fun t x P G tm _=>oq P G tm t x) (makeFunc:=fun fn first captured _ G tm _=>qj G tm fn first captured)
  (makeMap:=fun _ _ _ _ _ _=>none) (makeChan:=fun _ _ _ _ _ _=>none) (makeSlice:=fun _ _ _ _ _ _ _=>none) (slice:=fun t x lo hi mx P G tm _=>Ja P G tm t x lo hi mx) (fieldAddr:=fun s x f P G tm _=>xm P G tm s x f)
  (field:=fun s x f P G tm _=>Pt P G tm s x f) (indexAddr:=fun t x ix P G tm _=>xu P G tm t x ix) (index:=fun t x ix P G tm _=>PK P G tm t x ix) (lookup:=fun t x ix ok P G tm h=>Jb P G tm h t x ix ok)
  (mapUpdate:=fun _ _ _ _ _ _ _ _=>none) (mapEntry:=fun _ _ _ _ _ _ _=>none) (entryStore:=fun _ _ _ _ _ _ _ _=>none) (range:=fun _ _ _ _ _ _=>none) (next:=fun _ _ _ _ _ _=>none) (entry:=fun x _ G tm h=>Dk G tm h x)
  (typeAssert:=fun _ _ _ _ _ _ _ _=>none) (extract:=fun x i _ G tm _=>tZ G tm x i) (call:=fun c P G tm h=>Xw P G tm h c) (go:=fun _ _ _ _ _=>none) (defer:=fun _ _ _ _ _=>none) (panic:=fun _ _ _ _ _=>none)
  (send:=fun _ _ _ _ _ _=>none) (recv:=fun _ _ _ _ _ _ _=>none) (select:=fun _ _ _ _ _ _=>none) op
theorem uG (op:Op) (tm:TV) (h:H):yT op P G tm h=mq P G tm h op:=by
 cases op with
 |load t x=>exact XE _ _ _ _
 |binOp op t x y u=>exact GQ _ _ _ _ _
 |indexAddr t x ix=>exact FR _ _ _ _
 |index t x ix=>exact Us _ _ _ _
 |build t parts=>exact Ui _ _ _
 |convert s d x=>exact Mg _ _ _ _ _
 |makeInterface t x=>exact yS _ _ _
 |slice t x lo hi mx=>exact Pq _ _ _ _ _ _
 |fieldAddr s x f=>exact FQ _ _ _ _
 |field s x f=>exact Uk _ _ _ _
 |lookup t x ix ok=>exact Pv _ _ _ _ _ _
 |call c=>exact Xx _ _ _
 |_=>rfl
abbrev AA:=Program→Nat→TV→Nat→Option (Value×aJ)
def wK (op:Op):AA:=
 Op.rec (motive:=fun _=>AA)
  (move:=fun _ _ _ _ _=>none) (assign:=fun _ _ _ _ _=>none) (pick:=fun _ _ _ _ _ _ _=>none) (alloc:=fun elem P _ _ id=>Po P id elem) (box:=fun _ x _ G tm id=>WC G tm id x)
  (build:=fun _ _ _ _ _ _=>none) (buildSlice:=fun t len parts P G tm id=>uE P G tm id t len parts) (insert:=fun _ _ _ _ _ _ _ _=>none) (load:=fun _ _ _ _ _ _=>none) (store:=fun _ _ _ _ _ _ _=>none)
  (ready:=fun _ _ _ _ _=>none) (waits:=fun _ _ _ _ _=>none) (nilCheck:=fun _ _ _ _ _=>none) (binOp:=fun _ _ _ _ _ _ _ _ _=>none) (unOp:=fun _ _ _ _ _ _ _=>none)
  (convert:=fun _ _ _ _ _ _ _=>none) (sliceToArrayPointer:=fun _ _ _ _ _ _=>none) (makeInterface:=fun _ _ _ _ _ _=>none) (makeFunc:=fun _ _ _ _ _ _ _=>none)
  (makeMap:=fun t r P G tm id=>D9 P G tm id t r) (makeChan:=fun _ _ _ _ _ _=>none) (makeSlice:=fun t l c P G tm id=>xk P G tm id t l c) (slice:=fun _ _ _ _ _ _ _ _ _=>none) (fieldAddr:=fun _ _ _ _ _ _ _=>none)
  (field:=fun _ _ _ _ _ _ _=>none) (indexAddr:=fun _ _ _ _ _ _ _=>none) (index:=fun _ _ _ _ _ _ _=>none) (lookup:=fun _ _ _ _ _ _ _ _=>none)
  (mapUpdate:=fun _ _ _ _ _ _ _ _=>none) (mapEntry:=fun _ _ _ _ _ _ _=>none) (entryStore:=fun _ _ _ _ _ _ _ _=>none) (range:=fun _ _ _ _ _ _=>none) (next:=fun _ _ _ _ _ _=>none) (entry:=fun _ _ _ _ _=>none)
  (typeAssert:=fun _ _ _ _ _ _ _ _=>none) (extract:=fun _ _ _ _ _ _=>none) (call:=fun _ _ _ _ _=>none) (go:=fun _ _ _ _ _=>none) (defer:=fun _ _ _ _ _=>none) (panic:=fun _ _ _ _ _=>none)
  (send:=fun _ _ _ _ _ _=>none) (recv:=fun _ _ _ _ _ _ _=>none) (select:=fun _ _ _ _ _ _=>none) op
theorem Ee (op:Op) (tm:TV) (id:Nat):wK op P G tm id=zO P G tm id op:=by
 cases op with
 |alloc elem=>exact Uh _ _
 |buildSlice t len parts=>exact D8 _ _ _ _ _
 |makeMap t r=>exact Me _ _ _ _
 |makeSlice t l c=>exact FP _ _ _ _ _
 |_=>rfl
def PL (P:Program) (G:Nat) (tm:TV) (h:H) (t:TypeId) (a x:Operand):Option LR:=
 match ax G tm a,ax G tm x,jf P t with
 |some (.pointer (some ⟨i,k,none⟩)),some v,some n=>
  bif Nat.beq v.cells.size n then Option.rec (motive:=fun _=>Option LR) none (fun h'=>some (LR.val undef h')) (Pk G h i k v.cells.toList) else none
 |_,_,_=>none
theorem Ut (tm:TV) (h:H) (t:TypeId) (a x:Operand):PL P G tm h t a x=mD P G tm h t a x:=by
 unfold PL mD
 simp only [Ud,fu]
 have e:∀ (i k:Nat) (v:Value),Option.rec (motive:=fun _=>Option LR) none (fun h'=>some (LR.val undef h')) (h.write G i k v.cells.toList)=(match h.write G i k v.cells.toList with|some h'=>some (LR.val undef h')|none=>none):=by
  intro i k v;cases h.write G i k v.cells.toList<;>rfl
 simp only [e]
 rfl
abbrev AE:=Program→Nat→Option Nat→TV→H→Option LR
def Ef (op:Op):AE:=
 Op.rec (motive:=fun _=>AE)
  (move:=fun _ _ _ _ _ _=>none) (assign:=fun _ _ _ _ _ _=>none) (pick:=fun _ _ _ _ _ _ _ _=>none) (alloc:=fun _ _ _ _ _ _=>none) (box:=fun _ _ _ _ _ _ _=>none)
  (build:=fun _ _ _ _ _ _ _=>none) (buildSlice:=fun _ _ _ _ _ _ _ _=>none) (insert:=fun t m k x P G _ tm h=>rz P G tm h t m k x) (load:=fun _ _ _ _ _ _ _=>none) (store:=fun t a x P G _ tm h=>PL P G tm h t a x)
  (ready:=fun _ _ _ _ _ _=>none) (waits:=fun _ _ _ _ _ _=>none) (nilCheck:=fun _ _ _ _ _ _=>none) (binOp:=fun _ _ _ _ _ _ _ _ _ _=>none) (unOp:=fun _ _ _ _ _ _ _ _=>none)
  (convert:=fun s d x P G _ tm h=>Ak P G tm h s d x) (sliceToArrayPointer:=fun _ _ _ _ _ _ _=>none) (makeInterface:=fun _ _ _ _ _ _ _=>none) (makeFunc:=fun _ _ _ _ _ _ _ _=>none)
  (makeMap:=fun _ _ _ _ _ _ _=>none) (makeChan:=fun _ _ _ _ _ _ _=>none) (makeSlice:=fun _ _ _ _ _ _ _ _=>none) (slice:=fun _ _ _ _ _ _ _ _ _ _=>none) (fieldAddr:=fun _ _ _ _ _ _ _ _=>none)
  (field:=fun _ _ _ _ _ _ _ _=>none) (indexAddr:=fun _ _ _ _ _ _ _ _=>none) (index:=fun _ _ _ _ _ _ _ _=>none) (lookup:=fun _ _ _ _ _ _ _ _ _=>none)
  (mapUpdate:=fun t m k x P G _ tm h=>rz P G tm h t m k x) (mapEntry:=fun t m k P G _ tm h=>Al P G tm h t m k) (entryStore:=fun _ m s x _ G _ tm h=>lX G tm h m s x) (range:=fun t x P G _ tm h=>Px P G tm h t x)
  (next:=fun _ _ _ _ _ _ _=>none) (entry:=fun _ _ _ _ _ _=>none)
  (typeAssert:=fun _ _ _ _ _ _ _ _ _=>none) (extract:=fun _ _ _ _ _ _ _=>none) (call:=fun c P G rd tm h=>Ed P G rd tm h c) (go:=fun _ _ _ _ _ _=>none) (defer:=fun c _ G rd tm _=>Dl G rd tm c) (panic:=fun _ _ _ _ _ _=>none)
  (send:=fun _ _ _ _ _ _ _=>none) (recv:=fun _ _ _ _ _ _ _ _=>none) (select:=fun _ _ _ _ _ _ _=>none) op
theorem Eg (op:Op) (rd:Option Nat) (tm:TV) (h:H):Ef op P G rd tm h=FI P G rd tm h op:=by
 cases op with
 |store t a x=>exact Ut _ _ _ _ _
 |insert t m k x=>exact wJ _ _ _ _ _ _
 |mapUpdate t m k x=>exact wJ _ _ _ _ _ _
 |convert s d x=>exact Jd _ _ _ _ _
 |mapEntry t m k=>exact Je _ _ _ _ _
 |range t x=>exact Ul _ _ _ _
 |call c=>exact Mi _ _ _ _
 |_=>rfl
def XG (df:List Deferred) (h:H) (o:Option Value):Option (List V3):=Option.rec (motive:=fun _=>Option (List V3)) none (fun v=>some [⟨v,df,h⟩]) o
def XH (df:List Deferred) (h:H) (o:Option (Value×aJ)):Option (List V3):=Option.rec (motive:=fun _=>Option (List V3)) none (fun p=>some [⟨p.1,df,h.new p.2⟩]) o
def Eh (G:Nat) (ih:Task→Option (List Out)) (df:List Deferred) (h:H) (o:Option LR):Option (List V3):=Option.rec (motive:=fun _=>Option (List V3)) none (fun r=>Gy G ih h df r) o
abbrev RV:=Program→Nat→(Task→Option (List Out))→Option Nat→Op→TV→List Deferred→H→Option (List V3)
def Ml (G:Nat) (op:Op) (tm:TV) (df:List Deferred) (h:H):Option (List V3):=
 match op with
 | .next x str=>match K7 G tm h x str with
   |some l=>some (l.map fun p=>⟨p.1,df,p.2⟩)
   |none=>none
 |_=>none
def aeI (c:Zx):RV:=
 Zx.rec (motive:=fun _=>RV) (reads:=fun P G _ _ op tm df h=>XG df h (yT op P G tm h)) (makes:=fun P G _ _ op tm df h=>XH df h (wK op P G tm h.nx))
  (acts:=fun P G ih rd op tm df h=>Eh G ih df h (Ef op P G rd tm h)) (next:=fun _ G _ _ op tm df h=>Ml G op tm df h) c
def Cb (P:Program) (G:Nat) (ih:Task→Option (List Out)) (rd:Option Nat) (op:Op) (tm:TV) (df:List Deferred) (h:H):Option (List V3):=aeI (Mj P op) P G ih rd op tm df h
theorem xw (ih:Task→Option (List Out)) (rd:Option Nat) (op:Op) (tm:TV) (df:List Deferred) (h:H):Cb P G ih rd op tm df h=dZ P G ih rd op tm df h:=by
 unfold Cb dZ
 rw [Ca]
 cases cls P op with
 |reads=>show XG df h (yT op P G tm h)=_;rw [uG];cases mq P G tm h op<;>rfl
 |makes=>show XH df h (wK op P G tm h.nx)=_;rw [Ee];cases zO P G tm h.nx op<;>rfl
 |acts=>show Eh G ih df h (Ef op P G rd tm h)=_;rw [Eg];cases FI P G rd tm h op<;>rfl
 |next=>rfl
def lD {α β:Type} (o:Option (List α)) (f:α→Option (List β)):Option (List β):=
 Option.rec (motive:=fun _=>Option (List β)) none (fun l=>List.rec (motive:=fun _=>Option (List β)) (some []) (fun a t _=>List.rec (motive:=fun _=>Option (List β)) (f a) (fun b r _=>oP f (a::b::r)) t) l) o
theorem j5 {α β:Type} (o:Option (List α)) (f:α→Option (List β)):lD o f=iC o f:=by
 cases o with
 |none=>rfl
 |some l=>cases l with
  |nil=>rfl
  |cons a t=>cases t with
   |nil=>
    show f a=oP f [a]
    unfold oP
    cases f a<;>rfl
   |cons b r=>rfl
def kI (ops:Array Oper) (tm:TV) (o:Oper):Option Bool:=
 Option.rec (motive:=fun _=>Option Bool) (some true) (fun p=>match ((ops[p.1]?).bind (·.dst)).bind tm.get with
  |some (.bool b)=>some (b==p.2)
  |some (.complex _ _ _)=>none
  |some _=>some false
  |none=>none) o.guard
theorem xx (ops:Array Oper) (tm:TV) (o:Oper):kI ops tm o=dw ops tm o:=by
 unfold kI dw
 cases o.guard<;>rfl
def Ji (P:Program) (G:Nat) (ih:Task→Option (List Out)) (rd:Option Nat) (o:Oper) (st:St):Option (List St):=
 Option.rec (motive:=fun _=>Option (List St)) none (fun l=>some (l.map (Dn st o.dst))) (Cb P G ih rd o.op st.tm st.df st.h)
theorem Uu (ih:Task→Option (List Out)) (rd:Option Nat) (o:Oper) (st:St):Ji P G ih rd o st=Bn P G ih rd o st:=by
 unfold Ji Bn
 rw [xw]
 cases dZ P G ih rd o.op st.tm st.df st.h<;>rfl
abbrev RO:=Program→Nat→(Task→Option (List Out))→Option Nat→Array Oper→St→Option (List St)
def yU (l:List Oper):RO:=
 List.rec (motive:=fun _=>RO) (fun _ _ _ _ _ st=>some [st])
  (fun o _ rest P G ih rd ops st=>Option.rec (motive:=fun _=>Option (List St)) none
    (fun b=>Bool.rec (motive:=fun _=>Option (List St)) (rest P G ih rd ops (Dn st o.dst ⟨undef,st.df,st.h⟩)) (lD (Ji P G ih rd o st) (rest P G ih rd ops)) b) (kI ops st.tm o)) l
theorem xz (ih:Task→Option (List Out)) (rd:Option Nat) (ops:Array Oper):∀ (l:List Oper) (st:St),yU l P G ih rd ops st=jG P G ih rd ops l st
 |[],st=>rfl
 |o::rest,st=>by
  show Option.rec (motive:=fun _=>Option (List St)) none
   (fun b=>Bool.rec (motive:=fun _=>Option (List St)) (yU rest P G ih rd ops (Dn st o.dst ⟨undef,st.df,st.h⟩)) (lD (Ji P G ih rd o st) (yU rest P G ih rd ops)) b) (kI ops st.tm o)=_
  have e:yU rest P G ih rd ops=jG P G ih rd ops rest:=funext (xz ih rd ops rest)
  rw [xx,j5,Uu,e]
  show _=(match dw ops st.tm o with
   |none=>none
   |some false=>jG P G ih rd ops rest (Dn st o.dst ⟨undef,st.df,st.h⟩)
   |some true=>iC (Bn P G ih rd o st) (jG P G ih rd ops rest))
  cases dw ops st.tm o with
  |none=>rfl
  |some b=>cases b<;>rfl
abbrev CF:=Program→Nat→(Task→Option (List Out))→Option Nat→St→Option (List Out)
end Go.CE
namespace Go.CE
open Go Go.RowKit
variable {P:Program} {G:Nat}
abbrev DV:=Program→Nat→(Task→Option (List Out))→Option Nat→Nat→Array Oper→Array Nat→Nat→Nat→Oper→Dr→Option Dr
def XI (n bq sz i:Nat) (B:Nat) (o:Oper) (h0:H) (d:Dr) (r:Option (List V3)):Option Dr:=
 Bool.rec (motive:=fun _=>Option Dr) none (zZ n bq sz i o h0 d r) (d.es.all (fun e=>Nat.testBit B e))
def Ao (P:Program) (G:Nat) (ih:Task→Option (List Out)) (rd:Option Nat) (sz:Nat) (ops:Array Oper) (Bs:Array Nat) (bq:Nat) (i:Nat) (o:Oper) (d:Dr):Option Dr:=
 XI ops.size bq sz i (Bs.getD i 0) o (aI (Bs.getD i 0) d.h d.as) d (Cb P G ih rd o.op d.tm d.df (aI (Bs.getD i 0) d.h d.as))
def Rx (c:Zx):DV:=
 Zx.rec (motive:=fun _=>DV)
  (reads:=fun P G _ _ sz _ Bs _ i o d=>Option.rec (motive:=fun _=>Option Dr) none (fun v=>some {tm:=iT sz d.tm o.dst v,df:=d.df,h:=d.h,as:=d.as,es:=d.es,rs:=⟨i,o,d.tm,.reads,v⟩::d.rs}) (yT o.op P G d.tm (aI (Bs.getD i 0) d.h d.as)))
  (makes:=fun P G _ _ sz _ _ bq i o d=>Option.rec (motive:=fun _=>Option Dr) none
    (fun p=>some {tm:=iT sz d.tm o.dst p.1,df:=d.df,h:=d.h,as:=(i,bq+i,p.2)::d.as,es:=d.es,rs:=⟨i,o,d.tm,.makes (bq+i) p.2,p.1⟩::d.rs}) (wK o.op P G d.tm (bq+i)))
  (acts:=Ao) (next:=Ao) c
def yV (P:Program) (G:Nat) (ih:Task→Option (List Out)) (rd:Option Nat) (sz:Nat) (ops:Array Oper) (Bs:Array Nat) (bq:Nat) (i:Nat) (o:Oper) (d:Dr):Option Dr:=
 Bool.rec (motive:=fun _=>Option Dr) none
  (Option.rec (motive:=fun _=>Option Dr) none
    (fun w=>Bool.rec (motive:=fun _=>Option Dr) (some {tm:=iT sz d.tm o.dst undef,df:=d.df,h:=d.h,as:=d.as,es:=d.es,rs:=⟨i,o,d.tm,.skip,undef⟩::d.rs})
      (Rx (Mj P o.op) P G ih rd sz ops Bs bq i o d) w) (kI ops d.tm o)) (yx (Bs.getD i 0) o)
theorem Ei (ih:Task→Option (List Out)) (rd:Option Nat) (sz:Nat) (ops:Array Oper) (Bs:Array Nat) (bq:Nat) (i:Nat) (o:Oper) (d:Dr):yV P G ih rd sz ops Bs bq i o d=jU P G ih rd sz ops Bs bq i o d:=by
 unfold yV jU
 rw [Ca]
 cases yx (Bs.getD i 0) o with
 |false=>rfl
 |true=>
  rw [xx]
  show Option.rec (motive:=fun _=>Option Dr) none
   (fun w=>Bool.rec (motive:=fun _=>Option Dr) (some {tm:=iT sz d.tm o.dst undef,df:=d.df,h:=d.h,as:=d.as,es:=d.es,rs:=⟨i,o,d.tm,.skip,undef⟩::d.rs})
     (Rx (cls P o.op) P G ih rd sz ops Bs bq i o d) w) (dw ops d.tm o)=_
  cases dw ops d.tm o with
  |none=>rfl
  |some w=>
   cases w with
   |false=>rfl
   |true=>
    show Rx (cls P o.op) P G ih rd sz ops Bs bq i o d=_
    have act:Ao P G ih rd sz ops Bs bq i o d=bif d.es.all (fun e=>Nat.testBit (Bs.getD i 0) e) then zZ ops.size bq sz i o (aI (Bs.getD i 0) d.h d.as) d (dZ P G ih rd o.op d.tm d.df (aI (Bs.getD i 0) d.h d.as)) else none:=by
     unfold Ao XI
     rw [xw]
     cases d.es.all (fun e=>Nat.testBit (Bs.getD i 0) e)<;>rfl
    simp only [cond_true]
    cases cls P o.op with
    |reads=>
     show Option.rec (motive:=fun _=>Option Dr) none (fun v=>some {tm:=iT sz d.tm o.dst v,df:=d.df,h:=d.h,as:=d.as,es:=d.es,rs:=⟨i,o,d.tm,.reads,v⟩::d.rs}) (yT o.op P G d.tm (aI (Bs.getD i 0) d.h d.as))=_
     rw [uG]
     cases mq P G d.tm (aI (Bs.getD i 0) d.h d.as) o.op<;>rfl
    |makes=>
     show Option.rec (motive:=fun _=>Option Dr) none
      (fun p=>some {tm:=iT sz d.tm o.dst p.1,df:=d.df,h:=d.h,as:=(i,bq+i,p.2)::d.as,es:=d.es,rs:=⟨i,o,d.tm,.makes (bq+i) p.2,p.1⟩::d.rs}) (wK o.op P G d.tm (bq+i))=_
     rw [Ee]
     cases zO P G d.tm (bq+i) o.op<;>rfl
    |acts=>exact act
    |next=>exact act
abbrev DO:=Program→Nat→(Task→Option (List Out))→Option Nat→Nat→Array Oper→Array Nat→Nat→Nat→Dr→Option Dr
def PM (l:List Oper):DO:=
 List.rec (motive:=fun _=>DO) (fun _ _ _ _ _ _ _ _ _ d=>some d)
  (fun o _ rest P G ih rd sz ops Bs bq i d=>Option.rec (motive:=fun _=>Option Dr) none (fun d'=>rest P G ih rd sz ops Bs bq (i+1) d') (yV P G ih rd sz ops Bs bq i o d)) l
theorem Ap (ih:Task→Option (List Out)) (rd:Option Nat) (sz:Nat) (ops:Array Oper) (Bs:Array Nat) (bq:Nat):∀ (l:List Oper) (i:Nat) (d:Dr),PM l P G ih rd sz ops Bs bq i d=uj P G ih rd sz ops Bs bq l i d
 |[],_,_=>rfl
 |o::rest,i,d=>by
  show Option.rec (motive:=fun _=>Option Dr) none (fun d'=>PM rest P G ih rd sz ops Bs bq (i+1) d') (yV P G ih rd sz ops Bs bq i o d)=_
  rw [Ei]
  show _=(match jU P G ih rd sz ops Bs bq i o d with|some d'=>uj P G ih rd sz ops Bs bq rest (i+1) d'|none=>none)
  cases jU P G ih rd sz ops Bs bq i o d with
  |none=>rfl
  |some d'=>exact Ap ih rd sz ops Bs bq rest (i+1) d'
def Ej (P:Program) (G:Nat) (B:Nat) (h:H) (as:List (Nat×Nat×aJ)) (r:Rec) (rest:List eG):Bool:=
 rest.any (fun e=>Nat.testBit B e.i)||allEq r.v (yT r.o.op P G r.tm (aI B h as))
theorem GR (B:Nat) (h:H) (as:List (Nat×Nat×aJ)) (r:Rec) (rest:List eG):Ej P G B h as r rest=oQ P G B h as r rest:=by
 unfold Ej oQ;rw [uG]
def Ry (P:Program) (G:Nat) (Bs:Array Nat) (B:Nat) (as:List (Nat×Nat×aJ)) (r:Rec) (st:List eG):H→Bool:=
 List.rec (motive:=fun _=>H→Bool) (fun h=>Ej P G B h as r []) (fun e rest ih h=>Ej P G B h as r (e::rest)&&(Nat.testBit (Bs.getD e.i 0) r.i||ih e.h)) st
theorem Mm (Bs:Array Nat) (B:Nat) (as:List (Nat×Nat×aJ)) (r:Rec):∀ (st:List eG) (h:H),Ry P G Bs B as r st h=fG P G Bs B as r st h
 |[],h=>GR _ _ _ _ _
 |e::rest,h=>by
  show (Ej P G B h as r (e::rest)&&(Nat.testBit (Bs.getD e.i 0) r.i||Ry P G Bs B as r rest e.h))=_
  rw [GR,Mm Bs B as r rest];rfl
def acM (P:Program) (G:Nat) (Bs:Array Nat) (as:List (Nat×Nat×aJ)) (st:List eG) (h0:H) (r:Rec):Bool:=
 RK.rec (motive:=fun _=>Bool) true (Bool.rec (motive:=fun _=>Bool) (Ry P G Bs (Bs.getD r.i 0) as r st h0) true (iZ r.o.op)) (fun _ _=>true) (fun _ _=>true) r.k
def XJ (P:Program) (G:Nat) (Bs:Array Nat) (as:List (Nat×Nat×aJ)) (st:List eG) (h0:H) (rs:List Rec):Bool:=
 List.rec (motive:=fun _=>Bool) true (fun r _ ih=>acM P G Bs as st h0 r&&ih) rs
theorem El (Bs:Array Nat) (as:List (Nat×Nat×aJ)) (st:List eG) (h0:H):∀ (rs:List Rec),XJ P G Bs as st h0 rs=gF P G Bs as st h0 rs
 |[]=>rfl
 |r::rs=>by
  show (acM P G Bs as st h0 r&&XJ P G Bs as st h0 rs)=_
  rw [El Bs as st h0 rs]
  unfold acM
  obtain ⟨i,o,tm,k,v⟩:=r
  cases k with
  |reads=>
   show (Bool.rec (motive:=fun _=>Bool) (Ry P G Bs (Bs.getD i 0) as ⟨i,o,tm,.reads,v⟩ st h0) true (iZ o.op)&&_)=((iZ o.op||fG P G Bs (Bs.getD i 0) as ⟨i,o,tm,.reads,v⟩ st h0)&&gF P G Bs as st h0 rs)
   rw [Mm]
   cases iZ o.op<;>rfl
  |_=>rfl
def Mo (P:Program) (G:Nat) (ih:Task→Option (List Out)) (rd:Option Nat) (ops:Array Oper) (Bs:Array Nat) (ok:Bool) (st:St):Option St:=
 Bool.rec (motive:=fun _=>Option St) none
  (Option.rec (motive:=fun _=>Option St) none
    (fun d=>Bool.rec (motive:=fun _=>Option St) none (some {tm:=d.tm,sz:=st.sz,df:=d.df,h:=aI (2^ops.size-1) d.h d.as})
      (XJ P G Bs d.as (aP d.rs []) {hp:=st.h.hp,nx:=st.h.nx+ops.size,mw:=st.h.mw} d.rs))
    (PM ops.toList P G ih rd st.sz ops Bs st.h.nx 0 {tm:=st.tm,df:=st.df,h:={hp:=st.h.hp,nx:=st.h.nx+ops.size,mw:=st.h.mw},as:=[],es:=[],rs:=[]})) ok
theorem Mq (ih:Task→Option (List Out)) (rd:Option Nat) (ops:Array Oper) (st:St):
 Mo P G ih rd ops (Region.before ops) (eH ops.toList 0&&bM ops (Region.before ops) ops.toList 0) st=mR P G ih rd ops st:=by
 unfold Mo mR
 simp only
 cases (eH ops.toList 0&&bM ops (Region.before ops) ops.toList 0) with
 |false=>rfl
 |true=>
  rw [Ap]
  simp only [cond_true]
  cases uj P G ih rd st.sz ops (Region.before ops) st.h.nx ops.toList 0 {tm:=st.tm,df:=st.df,h:={hp:=st.h.hp,nx:=st.h.nx+ops.size,mw:=st.h.mw},as:=[],es:=[],rs:=[]} with
  |none=>rfl
  |some d=>
   simp only [El]
   cases gF P G (Region.before ops) d.as (aP d.rs []) {hp:=st.h.hp,nx:=st.h.nx+ops.size,mw:=st.h.mw} d.rs<;>rfl
def Jj (P:Program) (G:Nat) (ih:Task→Option (List Out)) (rd:Option Nat) (ops:Array Oper) (st:St):Option St:=
 Option.rec (motive:=fun _=>Option St) (jL P G ih rd ops st) (fun s=>some s) (Mo P G ih rd ops (Region.before ops) (eH ops.toList 0&&bM ops (Region.before ops) ops.toList 0) st)
theorem GU (ih:Task→Option (List Out)) (rd:Option Nat) (ops:Array Oper) (st:St):Jj P G ih rd ops st=jM P G ih rd ops st:=by
 unfold Jj jM
 rw [Mq]
 cases mR P G ih rd ops st<;>rfl
def Jk (P:Program) (G:Nat) (ih:Task→Option (List Out)) (rd:Option Nat) (st:St) (ops:Array Oper) (draw:Bool):Option (List Out):=
 Bool.rec (motive:=fun _=>Option (List Out)) (lD (yU ops.toList P G ih rd ops st) IB)
  (Option.rec (motive:=fun _=>Option (List Out)) none (fun s=>some [.code .normal s]) (Jj P G ih rd ops st)) draw
theorem PN (ih:Task→Option (List Out)) (rd:Option Nat) (st:St) (ops:Array Oper) (draw:Bool):Jk P G ih rd st ops draw=kZ P G ih rd st ops draw:=by
 unfold Jk kZ
 rw [j5,xz,GU]
 cases draw with
 |false=>rfl
 |true=>show Option.rec (motive:=fun _=>Option (List Out)) none (fun s=>some [.code .normal s]) (jM P G ih rd ops st)=_
        rw [cond_true]
        cases jM P G ih rd ops st<;>rfl
end Go.CE
