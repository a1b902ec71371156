/-
  The texts CeE of this claim, one behind the other.
-/
import Derived.Test.YtfjlnfogbfmpiaaGreatDoorZPSA5
import Derived.IntWalk
import Derived.Lib.IndexBytes
noncomputable section
namespace Go.CE
open Go Go.RowKit
variable {P:Program} {G:Nat}
def dropF {α:Type} (k:Nat) (l:List α):List α:=
 Nat.rec (motive:=fun _=>List α→List α) (fun l=>l) (fun _ ih l=>List.rec (motive:=fun _=>List α) [] (fun _ t _=>ih t) l) k l
theorem dropF_eq {α:Type}:∀ (k:Nat) (l:List α),dropF k l=l.drop k
 |0,_=>rfl
 |_+1,[]=>rfl
 |k+1,_::t=>dropF_eq k t
def takeNF {α:Type} (n:Nat) (l:List α):Option (List α):=
 Nat.rec (motive:=fun _=>List α→Option (List α)) (fun _=>some [])
  (fun _ ih l=>List.rec (motive:=fun _=>Option (List α)) none (fun a t _=>Option.rec (motive:=fun _=>Option (List α)) none (fun r=>some (a::r)) (ih t)) l) n l
theorem takeNF_eq:∀ (n:Nat) (l:List Value),takeNF n l=takeN n l
 |0,l=>by show some []=_;simp [takeN]
 |n+1,[]=>by show none=_;simp [takeN];rfl
 |n+1,a::t=>by
  have ih:=takeNF_eq n t
  show Option.rec (motive:=fun _=>Option (List Value)) none (fun r=>some (a::r)) (takeNF n t)=takeN (n+1) (a::t)
  rw [ih]
  unfold takeN
  simp only [List.take_succ_cons,List.length_cons]
  have e:Nat.beq ((t.take n).length+1) (n+1)=Nat.beq (t.take n).length n:=by
   rw [Bool.eq_iff_iff,Nat.beq_eq,Nat.beq_eq];omega
  rw [e]
  cases Nat.beq (t.take n).length n<;>rfl
def nthF {α:Type} (l:List α) (k:Nat):Option α:=List.rec (motive:=fun _=>Option α) none (fun a _ _=>some a) (dropF k l)
theorem nthF_eq {α:Type} (l:List α) (k:Nat):nthF l k=l[k]? :=by
 unfold nthF
 rw [dropF_eq,←List.head?_drop]
 cases l.drop k<;>rfl
def overF (vs:List Value):List Value→Option (List Value):=
 List.rec (motive:=fun _=>List Value→Option (List Value)) (fun cs=>some cs)
  (fun v _ ih cs=>List.rec (motive:=fun _=>Option (List Value)) none (fun _ r _=>Option.rec (motive:=fun _=>Option (List Value)) none (fun x=>some (v::x)) (ih r)) cs) vs
theorem overF_eq:∀ (vs cs:List Value),overF vs cs=bif Nat.ble vs.length cs.length then some (vs++cs.drop vs.length) else none
 |[],cs=>by
  show some cs=_
  have:Nat.ble 0 cs.length=true:=Nat.ble_eq_true_of_le (Nat.zero_le _)
  simp [this]
 |v::vs,[]=>rfl
 |v::vs,c::cs=>by
  show Option.rec (motive:=fun _=>Option (List Value)) none (fun x=>some (v::x)) (overF vs cs)=_
  rw [overF_eq vs cs]
  simp only [List.length_cons,List.drop_succ_cons,List.cons_append]
  have e:Nat.ble (vs.length+1) (cs.length+1)=Nat.ble vs.length cs.length:=by rw [Bool.eq_iff_iff,Nat.ble_eq,Nat.ble_eq];omega
  rw [e]
  cases Nat.ble vs.length cs.length<;>rfl
def putAtF (k:Nat) (vs:List Value) (cs:List Value):Option (List Value):=
 Nat.rec (motive:=fun _=>List Value→Option (List Value)) (overF vs)
  (fun _ ih cs=>List.rec (motive:=fun _=>Option (List Value)) none (fun c r _=>Option.rec (motive:=fun _=>Option (List Value)) none (fun x=>some (c::x)) (ih r)) cs) k cs
theorem putAtF_eq (vs:List Value):∀ (k:Nat) (cs:List Value),putAtF k vs cs=putAt cs k vs
 |0,cs=>by show overF vs cs=_;rw [overF_eq];cases cs<;>rfl
 |k+1,[]=>rfl
 |k+1,c::cs=>by
  show Option.rec (motive:=fun _=>Option (List Value)) none (fun x=>some (c::x)) (putAtF k vs cs)=_
  rw [putAtF_eq vs k cs]
  show _=(match putAt cs k vs with|some r=>some (c::r)|none=>none)
  cases putAt cs k vs<;>rfl
def cellsOfO:Option AObj→Option (List Value):=fun o=>Option.rec (motive:=fun _=>Option (List Value)) none
 (fun x=>AObj.casesOn (motive:=fun _=>Option (List Value)) x (fun cs=>some cs) (fun _ _=>none) (fun _ _=>none) (fun _ _ _ _=>none) (fun _ _ _ _ _ _ _=>none) (fun _=>none)) o
theorem cellsOfO_eq (h:H) (i:Nat):cellsOfO (h.hp.get i)=h.cells i:=by
 unfold H.cells
 cases h.hp.get i with
 |none=>rfl
 |some x=>cases x<;>rfl
def readF (h:H) (i k n:Nat):Option (List Value):=
 Option.rec (motive:=fun _=>Option (List Value)) none (fun cs=>takeNF n (dropF k cs)) (cellsOfO (h.hp.get i))
theorem readF_eq (h:H) (i k n:Nat):readF h i k n=h.read i k n:=by
 unfold readF H.read
 rw [cellsOfO_eq]
 cases h.cells i with
 |none=>rfl
 |some cs=>show takeNF n (dropF k cs)=_;rw [takeNF_eq,dropF_eq]
def writeF (G:Nat) (h:H) (i k:Nat) (vs:List Value):Option H:=
 Bool.rec (motive:=fun _=>Option H) none
  (Option.rec (motive:=fun _=>Option H) none (fun cs=>Option.rec (motive:=fun _=>Option H) none (fun cs'=>some (h.put i (some (.cells cs')))) (putAtF k vs cs)) (cellsOfO (h.hp.get i)))
  (Nat.ble G i&&vs.all oneCell)
theorem writeF_eq (G:Nat) (h:H) (i k:Nat) (vs:List Value):writeF G h i k vs=h.write G i k vs:=by
 unfold writeF H.write
 rw [cellsOfO_eq]
 cases (Nat.ble G i&&vs.all oneCell) with
 |false=>rfl
 |true=>
  cases h.cells i with
  |none=>rfl
  |some cs=>
   show Option.rec (motive:=fun _=>Option H) none (fun cs'=>some (h.put i (some (.cells cs')))) (putAtF k vs cs)=(match putAt cs k vs with|some cs'=>some (h.put i (some (.cells cs')))|none=>none)
   rw [putAtF_eq]
   cases putAt cs k vs<;>rfl
def ltI (a b:Int):Bool:=
 Int.rec (motive:=fun _=>Int→Bool) (fun m b=>Int.rec (motive:=fun _=>Bool) (fun n=>Nat.blt m n) (fun _=>false) b)
  (fun m b=>Int.rec (motive:=fun _=>Bool) (fun _=>true) (fun n=>Nat.blt n m) b) a b
theorem ltI_eq (a b:Int):ltI a b=decide (a<b):=by
 cases a with
 |ofNat m=>cases b with
  |ofNat n=>show Nat.blt m n=_;rw [Bool.eq_iff_iff,decide_eq_true_iff,Nat.blt_eq];simp
  |negSucc n=>show false=_;symm;rw [decide_eq_false_iff_not];have:=Int.negSucc_lt_zero n;have h2:(0:Int)≤Int.ofNat m:=Int.natCast_nonneg m;omega
 |negSucc m=>cases b with
  |ofNat n=>show true=_;symm;rw [decide_eq_true_iff];have:=Int.negSucc_lt_zero m;have h2:(0:Int)≤Int.ofNat n:=Int.natCast_nonneg n;omega
  |negSucc n=>show Nat.blt n m=_;rw [Bool.eq_iff_iff,decide_eq_true_iff,Nat.blt_eq];omega
def eqI (a b:Int):Bool:=
 Int.rec (motive:=fun _=>Int→Bool) (fun m b=>Int.rec (motive:=fun _=>Bool) (fun n=>Nat.beq m n) (fun _=>false) b)
  (fun m b=>Int.rec (motive:=fun _=>Bool) (fun _=>false) (fun n=>Nat.beq m n) b) a b
theorem eqI_eq (a b:Int):eqI a b=decide (a=b):=by
 cases a with
 |ofNat m=>cases b with
  |ofNat n=>show Nat.beq m n=_;rw [Bool.eq_iff_iff,decide_eq_true_iff,Nat.beq_eq];exact ⟨fun h=>by rw [h],fun h=>Int.ofNat.inj h⟩
  |negSucc n=>show false=_;symm;rw [decide_eq_false_iff_not];intro h;cases h
 |negSucc m=>cases b with
  |ofNat n=>show false=_;symm;rw [decide_eq_false_iff_not];intro h;cases h
  |negSucc n=>show Nat.beq m n=_;rw [Bool.eq_iff_iff,decide_eq_true_iff,Nat.beq_eq];simp
def topOf (k:IntKind):Nat:=
 IntKind.rec (motive:=fun _=>Nat) 128 32768 2147483648 9223372036854775808 256 65536 4294967296 18446744073709551616 k
theorem wrap_top (k:IntKind) (s:Nat) (h:Nat.blt s (topOf k)=true):k.wrap (Int.ofNat s)=Int.ofNat s:=by
 have h':s<topOf k:=Nat.le_of_ble_eq_true h
 have e:(Int.ofNat s)=(s:Int):=rfl
 rw [e]
 cases k<;>simp only [topOf] at h'
 ·exact IntWalk.i8_in _ (by omega)
 ·exact IntWalk.i16_in _ (by omega)
 ·exact IntWalk.i32_in _ (by omega)
 ·exact IntWalk.i64_in _ (by omega)
 ·exact IntWalk.u8_in _ (by omega)
 ·exact IntWalk.u16_in _ (by omega)
 ·exact IntWalk.u32_in _ (by omega)
 ·exact IntWalk.u64_in _ (by omega)
def wrapNat (k:IntKind) (s:Nat):Int:=Bool.rec (motive:=fun _=>Int) (k.wrap (Int.ofNat s)) (Int.ofNat s) (Nat.blt s (topOf k))
theorem wrapNat_eq (k:IntKind) (s:Nat):wrapNat k s=k.wrap (Int.ofNat s):=by
 unfold wrapNat
 cases h:Nat.blt s (topOf k) with
 |false=>rfl
 |true=>exact (wrap_top k s h).symm
def addI (k:IntKind) (a b:Int):Int:=
 Int.rec (motive:=fun _=>Int→Int) (fun m b=>Int.rec (motive:=fun _=>Int) (fun n=>wrapNat k (Nat.add m n)) (fun n=>k.wrap (Int.ofNat m+Int.negSucc n)) b)
  (fun m b=>k.wrap (Int.negSucc m+b)) a b
theorem addI_eq (k:IntKind) (a b:Int):addI k a b=k.wrap (a+b):=by
 cases a with
 |ofNat m=>cases b with
  |ofNat n=>exact wrapNat_eq k (m+n)
  |negSucc n=>rfl
 |negSucc m=>rfl
def subI (k:IntKind) (a b:Int):Int:=
 Int.rec (motive:=fun _=>Int→Int) (fun m b=>Int.rec (motive:=fun _=>Int)
  (fun n=>Bool.rec (motive:=fun _=>Int) (k.wrap (Int.ofNat m-Int.ofNat n)) (wrapNat k (Nat.sub m n)) (Nat.ble n m)) (fun n=>k.wrap (Int.ofNat m-Int.negSucc n)) b)
  (fun m b=>k.wrap (Int.negSucc m-b)) a b
theorem subI_eq (k:IntKind) (a b:Int):subI k a b=k.wrap (a-b):=by
 cases a with
 |ofNat m=>cases b with
  |ofNat n=>
   show Bool.rec (motive:=fun _=>Int) (k.wrap (Int.ofNat m-Int.ofNat n)) (wrapNat k (Nat.sub m n)) (Nat.ble n m)=_
   cases h:Nat.ble n m with
   |false=>rfl
   |true=>
    have:=Nat.le_of_ble_eq_true h
    show wrapNat k (m-n)=_
    rw [wrapNat_eq];congr 1
    show ((m-n:Nat):Int)=(m:Int)-(n:Int)
    omega
  |negSucc n=>rfl
 |negSucc m=>rfl
abbrev IO3:=IntKind→Int→Int→Option Value
def intOpF (op:BinOp):IO3:=
 BinOp.rec (motive:=fun _=>IO3) (add:=fun k a b=>some (.int k (addI k a b))) (sub:=fun k a b=>some (.int k (subI k a b))) (mul:=fun _ _ _=>none) (quo:=fun _ _ _=>none) (rem:=fun _ _ _=>none)
  (and:=fun _ _ _=>none) (or:=fun _ _ _=>none) (xor:=fun _ _ _=>none) (shl:=fun _ _ _=>none) (shr:=fun _ _ _=>none) (andNot:=fun _ _ _=>none)
  (eql:=fun _ a b=>some (.bool (eqI a b))) (neq:=fun _ a b=>some (.bool (not (eqI a b)))) (lss:=fun _ a b=>some (.bool (ltI a b))) (leq:=fun _ a b=>some (.bool (not (ltI b a))))
  (gtr:=fun _ a b=>some (.bool (ltI b a))) (geq:=fun _ a b=>some (.bool (not (ltI a b)))) op
theorem intOpF_eq (op:BinOp) (k:IntKind) (a b:Int):intOpF op k a b=intOp op k a b:=by
 cases op
 case add=>show some (Value.int k (addI k a b))=_;rw [addI_eq];rfl
 case sub=>show some (Value.int k (subI k a b))=_;rw [subI_eq];rfl
 case eql=>show some (Value.bool (eqI a b))=_;rw [eqI_eq];rfl
 case neq=>show some (Value.bool (not (eqI a b)))=_;rw [eqI_eq];rfl
 case lss=>show some (Value.bool (ltI a b))=_;rw [ltI_eq];rfl
 case gtr=>show some (Value.bool (ltI b a))=_;rw [ltI_eq];rfl
 case leq=>
  show some (Value.bool (not (ltI b a)))=some (.bool (decide (a≤b)))
  rw [ltI_eq];congr 2
  rw [Bool.eq_iff_iff];simp
 case geq=>
  show some (Value.bool (not (ltI a b)))=some (.bool (decide (b≤a)))
  rw [ltI_eq];congr 2
  rw [Bool.eq_iff_iff];simp
 all_goals rfl
def beqL (a b:List UInt8):Bool:=
 List.rec (motive:=fun _=>List UInt8→Bool) (fun b=>List.rec (motive:=fun _=>Bool) true (fun _ _ _=>false) b)
  (fun x _ ih b=>List.rec (motive:=fun _=>Bool) false (fun y r _=>Bool.rec (motive:=fun _=>Bool) false (ih r) (Nat.beq x.toNat y.toNat)) b) a b
theorem beqL_eq:∀ (a b:List UInt8),beqL a b=(a==b)
 |[],[]=>rfl
 |[],_::_=>rfl
 |_::_,[]=>rfl
 |x::a,y::b=>by
  show Bool.rec (motive:=fun _=>Bool) false (beqL a b) (Nat.beq x.toNat y.toNat)=_
  rw [beqL_eq a b]
  have e:Nat.beq x.toNat y.toNat=(x==y):=by rw [Bool.eq_iff_iff,Nat.beq_eq,beq_iff_eq,←UInt8.toNat_inj]
  rw [e]
  show _=((x==y)&&(a==b))
  cases (x==y)<;>rfl
theorem toList_data (s:ByteArray):s.toList=s.data.toList:=ByteArray.toList_eq s
end Go.CE
namespace Go.CE
open Go Go.RowKit
theorem putAt_eq (vs:List Value):∀ (k:Nat) (cs:List Value),putAt cs k vs=if k+vs.length≤cs.length then some (cs.take k++vs++cs.drop (k+vs.length)) else none
 |0,cs=>by
  have e:putAt cs 0 vs=bif Nat.ble vs.length cs.length then some (vs++cs.drop vs.length) else none:=by cases cs<;>rfl
  rw [e,Nat.zero_add]
  by_cases h:vs.length≤cs.length
  ·rw [if_pos h,Nat.ble_eq_true_of_le h];rfl
  ·rw [if_neg h]
   have:Nat.ble vs.length cs.length=false:=by
    cases hb:Nat.ble vs.length cs.length with
    |false=>rfl
    |true=>exact absurd (Nat.le_of_ble_eq_true hb) h
   rw [this];rfl
 |k+1,[]=>by
  rw [if_neg (by simp only [List.length_nil];omega)];rfl
 |k+1,c::cs=>by
  have e:putAt (c::cs) (k+1) vs=(match putAt cs k vs with|some r=>some (c::r)|none=>none):=rfl
  rw [e,putAt_eq vs k cs]
  by_cases h:k+vs.length≤cs.length
  ·rw [if_pos h,if_pos (by simp only [List.length_cons];omega)]
   simp only [List.take_succ_cons,List.cons_append]
   rw [show k+1+vs.length=k+vs.length+1 by omega,List.drop_succ_cons]
  ·rw [if_neg h,if_neg (by simp only [List.length_cons];omega)]
theorem fold_set (off:Nat):∀ (vs:List Value) (n:Nat) (cs:Array Value),off+n+vs.length≤cs.size→
 ((vs.zipIdx n).foldl (fun cs p=>cs.setIfInBounds (off+p.2) p.1) cs).toList=cs.toList.take (off+n)++vs++cs.toList.drop (off+n+vs.length)
 |[],n,cs,h=>by simp
 |v::vs,n,cs,h=>by
  rw [List.length_cons] at h
  rw [List.zipIdx_cons,List.foldl_cons,fold_set off vs (n+1) _ (by rw [Array.size_setIfInBounds];omega)]
  rw [Array.toList_setIfInBounds,List.set_eq_take_append_cons_drop,if_pos (by rw [Array.length_toList];omega)]
  have hl:(cs.toList.take (off+n)).length=off+n:=by rw [List.length_take,Array.length_toList];omega
  have e:cs.toList.take (off+n)++v::cs.toList.drop (off+n+1)=(cs.toList.take (off+n)++[v])++cs.toList.drop (off+n+1):=by simp
  have hl2:(cs.toList.take (off+n)++[v]).length=off+(n+1):=by rw [List.length_append,hl];rfl
  rw [e,List.take_left' hl2,List.length_cons]
  have hd:List.drop (off+(n+1)+vs.length) ((cs.toList.take (off+n)++[v])++cs.toList.drop (off+n+1))=cs.toList.drop (off+n+(vs.length+1)):=by
   rw [List.drop_append,hl2,List.drop_eq_nil_of_le (by rw [hl2];omega),List.nil_append,List.drop_drop]
   congr 1;omega
  rw [hd]
  simp
def fillL (place:Nat→Option (Nat×Nat)) (l:List (Nat×Value)):List Value→Option (List Value):=
 List.rec (motive:=fun _=>List Value→Option (List Value)) (fun cs=>some cs)
  (fun p _ ih cs=>Option.rec (motive:=fun _=>Option (List Value)) none
    (fun q=>Bool.rec (motive:=fun _=>Option (List Value)) none (Option.rec (motive:=fun _=>Option (List Value)) none (fun cs'=>ih cs') (putAtF q.1 p.2.cells.toList cs)) (Nat.beq p.2.cells.toList.length q.2)) (place p.1)) l
theorem fillL_eq (place:Nat→Option (Nat×Nat)):∀ (l:List (Nat×Value)) (cs:Array Value),fillL place l cs.toList=(Instr.fill place cs l).map Array.toList
 |[],cs=>rfl
 |(i,v)::rest,cs=>by
  have e:fillL place ((i,v)::rest) cs.toList=Option.rec (motive:=fun _=>Option (List Value)) none
   (fun q=>Bool.rec (motive:=fun _=>Option (List Value)) none (Option.rec (motive:=fun _=>Option (List Value)) none (fun cs'=>fillL place rest cs') (putAtF q.1 v.cells.toList cs.toList)) (Nat.beq v.cells.toList.length q.2)) (place i):=rfl
  rw [e]
  simp only [Instr.fill]
  cases hp:place i with
  |none=>rfl
  |some q=>
   obtain ⟨off,size⟩:=q
   simp only
   have hz:v.cells.toList.length=v.cells.size:=Array.length_toList
   cases hb:Nat.beq v.cells.toList.length size with
   |false=>
    have:v.cells.size≠size:=fun h=>by rw [hz,h,Nat.beq_refl] at hb;cases hb
    rw [if_pos (by simp [this])];rfl
   |true=>
    have hs:v.cells.size=size:=by rw [←hz];exact Nat.eq_of_beq_eq_true hb
    show Option.rec (motive:=fun _=>Option (List Value)) none (fun cs'=>fillL place rest cs') (putAtF off v.cells.toList cs.toList)=_
    rw [putAtF_eq,putAt_eq,hz,Array.length_toList]
    by_cases h:off+v.cells.size≤cs.size
    ·rw [if_pos h,if_neg (by simp only [Bool.or_eq_true,decide_eq_true_eq];omega)]
     show fillL place rest (cs.toList.take off++v.cells.toList++cs.toList.drop (off+v.cells.size))=_
     have hf:=fold_set off v.cells.toList 0 cs (by rw [hz];omega)
     rw [Nat.add_zero,hz] at hf
     rw [←hf,fillL_eq place rest]
     congr 2
     rw [←Array.foldl_toList,Array.toList_zipIdx]
    ·rw [if_neg h,if_pos (by simp only [Bool.or_eq_true,decide_eq_true_eq];omega)];rfl
variable {P:Program} {G:Nat}
def tailC {α:Type} (l:List α) (k:Nat):List α:=
 Nat.rec (motive:=fun _=>List α) l (fun _ ih=>List.rec (motive:=fun _=>List α) [] (fun _ t _=>t) ih) k
theorem tailC_eq {α:Type} (l:List α):∀ k:Nat,tailC l k=l.drop k
 |0=>rfl
 |k+1=>by
  show List.rec (motive:=fun _=>List α) [] (fun _ t _=>t) (tailC l k)=_
  rw [tailC_eq l k,←List.tail_drop]
  cases l.drop k<;>rfl
def nthC {α:Type} (l:List α) (k:Nat):Option α:=List.rec (motive:=fun _=>Option α) none (fun a _ _=>some a) (tailC l k)
theorem nthC_eq {α:Type} (l:List α) (k:Nat):nthC l k=l[k]? :=by
 unfold nthC
 rw [tailC_eq,←List.head?_drop]
 cases l.drop k<;>rfl
def fnF (P:Program) (g:FuncId):Option Func:=nthC P.funcs.toList g
theorem fnF_eq (g:FuncId):fnF P g=P.funcs[g]? :=by unfold fnF;rw [nthC_eq,Array.getElem?_toList]
def infoF (P:Program) (t:TypeId):Option TypeInfo:=Option.rec (motive:=fun _=>Option TypeInfo) (P.info? t) (fun i=>some i) (nthC P.types.toList t)
theorem infoF_eq (t:TypeId):infoF P t=P.info? t:=by
 unfold infoF
 rw [nthC_eq,Array.getElem?_toList]
 cases h:P.types[t]? with
 |none=>rfl
 |some i=>
  show some i=_
  have hlt:t<P.types.size:=(Array.getElem?_eq_some_iff.1 h).1
  unfold Tables.info?
  rw [if_pos hlt,h]
def undD (P:Program) (i:TypeInfo):Option TypeDesc:=
 match i.desc with
 | .named _ u=>(infoF P u).map (·.desc)
 |d=>some d
def undF (P:Program) (t:TypeId):Option TypeDesc:=Option.rec (motive:=fun _=>Option TypeDesc) none (fun i=>undD P i) (infoF P t)
theorem undF_eq (t:TypeId):undF P t=P.underlying t:=by
 unfold undF Program.underlying
 rw [infoF_eq]
 cases P.info? t with
 |none=>rfl
 |some i=>
  obtain ⟨d,n1,n2,n3,n4,n5,n6,n7,n8,n9⟩:=i
  show undD P ⟨d,n1,n2,n3,n4,n5,n6,n7,n8,n9⟩=_
  unfold undD
  cases d<;>first|rfl|simp only [infoF_eq]
def sizeF (P:Program) (t:TypeId):Option Nat:=Option.rec (motive:=fun _=>Option Nat) none (fun i=>some i.size) (infoF P t)
theorem sizeF_eq (t:TypeId):sizeF P t=sizeA P t:=by
 unfold sizeF sizeA
 rw [infoF_eq]
 cases P.info? t<;>rfl
def zeroF (P:Program) (t:TypeId):Option Value:=
 match (infoF P t).bind (·.zero) with
 |some v=>bif af 6 v then some v else none
 |none=>none
theorem zeroF_eq (t:TypeId):zeroF P t=zeroA P t:=by unfold zeroF zeroA;rw [infoF_eq];rfl
def aggF (P:Program) (t:TypeId):Option Bool:=
 match undF P t with
 |some (.struct _)|some (.array _ _)=>some true
 |some _=>some false
 |none=>none
theorem aggF_eq (t:TypeId):aggF P t=isAggA P t:=by unfold aggF isAggA;rw [undF_eq];rfl
theorem agg_toList:((fun l:List Value=>Value.agg l.toArray)∘Array.toList)=Value.agg:=rfl
def fillT (size n:Nat) (z:Value) (l:List (Nat×Value)):Option (List Value):=
 bif Nat.ble n 16777216&&Nat.blt 0 size&&Nat.beq z.cells.size size then fillL (fun i=>some (i*size,size)) l ((List.range n).map (z.cells[· %z.cells.size]!)) else none
theorem fillT_eq (size n:Nat) (z:Value) (l:List (Nat×Value)):fillT size n z l=(fillA size n z l).map Array.toList:=by
 unfold fillT fillA
 rw [←Array.toList_range,←Array.toList_map,fillL_eq]
 cases (Nat.ble n 16777216&&Nat.blt 0 size&&Nat.beq z.cells.size size)<;>rfl
def partT (P:Program) (t:TypeId) (cs:List Value) (off:Nat):Option Value:=
 match aggF P t,sizeF P t with
 |some true,some n=>(takeN n (cs.drop off)).map fun l=> .agg l.toArray
 |some false,_=>cs[off]?
 |_,_=>none
theorem partT_eq (t:TypeId) (cs:List Value) (off:Nat):partT P t cs off=partA P t cs off:=by
 unfold partT partA
 simp only [sizeF_eq,aggF_eq]
 try rfl
def sliceT (P:Program) (t:TypeId) (x:Value) (lo hi mx:Option (Option Value)):Option Value:=
 match undF P t,x with
 |some (.array n elem),.pointer (some ⟨i,k,none⟩)=>
  match boundsA n n lo hi mx,sizeF P elem with
  |some (l,h,m),some size=>some (.slice (some ⟨i,bif Nat.beq m l then k else k+l*size,none⟩) (h-l) (exCap (m-l)))
  |_,_=>none
 |some (.slice elem),.slice (some ⟨i,k,none⟩) len c=>
  match boundsA len (capLo c) lo hi mx,sizeF P elem with
  |some (l,h,m),some size=>
   bif capEx c||mx.isSome then some (.slice (some ⟨i,bif Nat.beq m l then k else k+l*size,none⟩) (h-l) (exCap (m-l)))
   else bif (Nat.beq l 0||Nat.blt l m)&&Nat.beq size (capSize c) then some (.slice (some ⟨i,k+l*size,none⟩) (h-l) (loCap (m-l) size))
   else none
  |_,_=>none
 |some (.slice elem),.slice none len c=>
  match boundsA len c lo hi mx,sizeF P elem with
  |some (l,h,m),some _=>some (.slice none (h-l) (m-l))
  |_,_=>none
 |_,_=>none
theorem sliceT_eq (t:TypeId) (x:Value) (lo hi mx:Option (Option Value)):sliceT P t x lo hi mx=sliceA P t x lo hi mx:=by
 unfold sliceT sliceA
 simp only [undF_eq,sizeF_eq]
 try rfl
def allocT (P:Program) (id:Nat) (elem:TypeId):Option (Value×AObj):=
 match zeroF P elem with
 |some z=>some (.pointer (some ⟨id,0,none⟩),.cells z.cells.toList)
 |none=>none
theorem allocT_eq (id:Nat) (elem:TypeId):allocT P id elem=allocA P id elem:=by
 unfold allocT allocA
 simp only [zeroF_eq]
 try rfl
def buildSliceT (P:Program) (G:Nat) (tm:TV) (id:Nat) (t:TypeId) (len:Nat) (parts:Array (Nat×Operand)):Option (Value×AObj):=
 match undF P t,aevalL G tm (parts.toList.map (·.2)) with
 |some (.slice elem),some vs=>
  match sizeF P elem,zeroF P elem with
  |some size,some z=>Option.rec (motive:=fun _=>Option (Value×AObj)) none (fun cells=>some (.slice (some ⟨id,0,none⟩) len (exCap len),.cells cells)) (fillT size (len*size) z ((parts.toList.map (·.1)).zip vs))
  |_,_=>none
 |_,_=>none
theorem buildSliceT_eq (tm:TV) (id:Nat) (t:TypeId) (len:Nat) (parts:Array (Nat×Operand)):buildSliceT P G tm id t len parts=buildSliceA P G tm id t len parts:=by
 unfold buildSliceT buildSliceA
 simp only [undF_eq,sizeF_eq,zeroF_eq,fillT_eq]
 cases P.underlying t with
 |none=>rfl
 |some d=>
  cases aevalL G tm (parts.toList.map (·.2)) with
  |none=>cases d<;>rfl
  |some vs=>
   cases d with
   |slice elem=>
    simp only
    cases sizeA P elem with
    |none=>rfl
    |some size=>
     cases zeroA P elem with
     |none=>rfl
     |some z=>
      simp only
      cases fillA size (len*size) z ((parts.toList.map (·.1)).zip vs)<;>rfl
   |_=>rfl
def makeMapT (P:Program) (G:Nat) (tm:TV) (id:Nat) (t:TypeId) (r:Option Operand):Option (Value×AObj):=
 match r with
 |none=>some (.map (some id),.map [] 0)
 |some r=>match undF P t,aeval G tm r with
  |some (.map _ _),some (.int _ _)=>some (.map (some id),.map [] 0)
  |_,_=>none
theorem makeMapT_eq (tm:TV) (id:Nat) (t:TypeId) (r:Option Operand):makeMapT P G tm id t r=makeMapA P G tm id t r:=by
 unfold makeMapT makeMapA
 simp only [undF_eq]
 try rfl
def makeSliceT (P:Program) (G:Nat) (tm:TV) (id:Nat) (t:TypeId) (l c:Operand):Option (Value×AObj):=
 match undF P t,aeval G tm l,aeval G tm c with
 |some (.slice elem),some (.int _ l),some (.int _ c)=>
  match sizeF P elem,zeroF P elem with
  |some size,some z=>
   bif decide (0≤l)&&decide (l≤c)&&decide (c≤1048576)&&Nat.ble ((infoF P elem).elim 0 (·.bytes)) 1048576 then makeRow id l.toNat c.toNat size z else none
  |_,_=>none
 |_,_,_=>none
theorem makeSliceT_eq (tm:TV) (id:Nat) (t:TypeId) (l c:Operand):makeSliceT P G tm id t l c=makeSliceA P G tm id t l c:=by
 unfold makeSliceT makeSliceA
 simp only [undF_eq,sizeF_eq,zeroF_eq,infoF_eq]
 try rfl
def placesT (P:Program):List Field→Option (List (Nat×Nat))
 |[]=>some []
 |f::r=>match sizeF P f.type,placesT P r with
  |some s,some l=>some ((f.offset,s)::l)
  |_,_=>none
theorem placesT_eq:∀ l,placesT P l=placesN P l
 |[]=>rfl
 |f::r=>by simp only [placesT,placesN,sizeF_eq,placesT_eq r];rfl
def buildT (P:Program) (G:Nat) (tm:TV) (t:TypeId) (parts:Array (Nat×Operand)):Option Value:=
 match zeroF P t,undF P t,aevalL G tm (parts.toList.map (·.2)) with
 |some z,some (.struct fields),some vs=>
  match placesT P fields.toList with
  |some places=>(fillL (fun i=>nthF places i) ((parts.toList.map (·.1)).zip vs) z.cells.toList).map fun l=> .agg l.toArray
  |none=>none
 |some z,some (.array _ elem),some vs=>
  match sizeF P elem with
  |some size=>(fillL (fun i=>some (i*size,size)) ((parts.toList.map (·.1)).zip vs) z.cells.toList).map fun l=> .agg l.toArray
  |none=>none
 |_,_,_=>none
theorem buildT_eq (tm:TV) (t:TypeId) (parts:Array (Nat×Operand)):buildT P G tm t parts=buildN P G tm t parts:=by
 unfold buildT buildN
 simp only [undF_eq,sizeF_eq,zeroF_eq,placesT_eq,fillL_eq,nthF_eq,Option.map_map,agg_toList]
 try rfl
def eqNilT (P:Program) (t:TypeId) (a b:Value):Bool:=
 match a,b with
 | .slice (some _) _ _,.slice none _ _| .slice none _ _,.slice (some _) _ _=>match undF P t with|some (.slice _)=>true|_=>false
 | .pointer (some _),.pointer none| .pointer none,.pointer (some _)=>match undF P t with|some (.pointer _)=>true|_=>false
 | .func (.func _) _ _,.nilFunc=>match undF P t with|some (.func _ _ _)=>true|_=>false
 | .map (some _),.map none=>match undF P t with|some (.map _ _)=>true|_=>false
 |_,_=>false
theorem eqNilT_eq (t:TypeId) (a b:Value):eqNilT P t a b=eqNil P t a b:=by
 unfold eqNilT eqNil
 simp only [undF_eq]
 try rfl
def pureBinT (P:Program) (op:BinOp) (t:TypeId) (x y:Operand) (a b:Value):Option Value:=
 bif af 6 a&&af 6 b then afv (pureRun P (do eqGuard op t x y a b;binOp op t a b))
 else match op with
  | .eql=>bif eqNilT P t a b then some (.bool false) else none
  | .neq=>bif eqNilT P t a b then some (.bool true) else none
  |_=>none
theorem pureBinT_eq (op:BinOp) (t:TypeId) (x y:Operand) (a b:Value):pureBinT P op t x y a b=pureBin P op t x y a b:=by
 unfold pureBinT pureBin
 simp only [eqNilT_eq]
 try rfl
def textT (P:Program) (h:H) (e:TypeId) (i k len:Nat):Option Value:=
 match undF P e,h.read i k len with
 |some (.int .u8),some l=>(bytesOf l).map fun l=> .string ⟨l.toArray⟩
 |_,_=>none
theorem textT_eq (h:H) (e:TypeId) (i k len:Nat):textT P h e i k len=textN P h e i k len:=by
 unfold textT textN
 simp only [undF_eq]
 try rfl
def convertT (P:Program) (G:Nat) (tm:TV) (h:H) (s d:TypeId) (x:Operand):Option Value:=
 match aeval G tm x with
 |some a=>
  bif af 6 a then afv (pureRun P (convert s d a))
  else match undF P s,undF P d,a with
   |some (.slice e),some .string,.slice (some ⟨i,k,none⟩) len _=>textT P h e i k len
   |some (.pointer t),some .unsafePointer,.pointer (some ⟨i,k,none⟩)=>match sizeF P t,h.cells i with
    |some n,some cs=>bif Nat.blt 0 n&&Nat.blt k cs.length then some a else none
    |_,_=>none
   |_,_,_=>none
 |none=>none
theorem convertT_eq (tm:TV) (h:H) (s d:TypeId) (x:Operand):convertT P G tm h s d x=convertN P G tm h s d x:=by
 unfold convertT convertN
 simp only [undF_eq,sizeF_eq,textT_eq]
 try rfl
def makeInterfaceT (P:Program) (G:Nat) (tm:TV) (t:TypeId) (x:Operand):Option Value:=
 match undF P t,aeval G tm x with
 |some (.interface _),_=>none
 |some _,some v=>some (.iface t v)
 |_,_=>none
theorem makeInterfaceT_eq (tm:TV) (t:TypeId) (x:Operand):makeInterfaceT P G tm t x=makeInterfaceN P G tm t x:=by
 unfold makeInterfaceT makeInterfaceN
 simp only [undF_eq]
 try rfl
def sliceTN (P:Program) (G:Nat) (tm:TV) (t:TypeId) (x:Operand) (lo hi mx:Option Operand):Option Value:=
 match aeval G tm x with
 |some (.string s)=>match undF P t,mx with
  |some .string,none=>match boundsA s.size s.size (lo.map (aeval G tm)) (hi.map (aeval G tm)) none with
   |some (l,h,_)=>some (.string (s.extract l h))
   |none=>none
  |_,_=>none
 |some a=>sliceT P t a (lo.map (aeval G tm)) (hi.map (aeval G tm)) (mx.map (aeval G tm))
 |none=>none
theorem sliceTN_eq (tm:TV) (t:TypeId) (x:Operand) (lo hi mx:Option Operand):sliceTN P G tm t x lo hi mx=sliceN P G tm t x lo hi mx:=by
 unfold sliceTN sliceN
 simp only [undF_eq,sliceT_eq]
 try rfl
def fieldAddrT (P:Program) (G:Nat) (tm:TV) (s:TypeId) (x:Operand) (f:Nat):Option Value:=
 match undF P s,aeval G tm x with
 |some (.struct fields),some (.pointer (some ⟨i,k,none⟩))=>match fields[f]? with
  |some f=>match sizeF P f.type with
   |some n=>bif Nat.blt 0 n then some (.pointer (some ⟨i,k+f.offset,none⟩)) else none
   |none=>none
  |none=>none
 |_,_=>none
theorem fieldAddrT_eq (tm:TV) (s:TypeId) (x:Operand) (f:Nat):fieldAddrT P G tm s x f=fieldAddrN P G tm s x f:=by
 unfold fieldAddrT fieldAddrN
 simp only [undF_eq,sizeF_eq]
 try rfl
def fieldT (P:Program) (G:Nat) (tm:TV) (s:TypeId) (x:Operand) (f:Nat):Option Value:=
 match undF P s,aeval G tm x with
 |some (.struct fields),some (.agg cs)=>match fields[f]? with
  |some f=>partT P f.type cs.toList f.offset
  |none=>none
 |_,_=>none
theorem fieldT_eq (tm:TV) (s:TypeId) (x:Operand) (f:Nat):fieldT P G tm s x f=fieldN P G tm s x f:=by
 unfold fieldT fieldN
 simp only [undF_eq,partT_eq]
 try rfl
def lookupT (P:Program) (G:Nat) (tm:TV) (h:H) (t:TypeId) (x ix:Operand) (ok:Bool):Option Value:=
 match undF P t,aeval G tm x,aeval G tm ix with
 |some (.map kt et),some m,some k=>
  match entriesA h m with
  |none=>none
  |some es=>match findA P es.isEmpty kt k es with
   |some (some i)=>match es[i]? with
    |some e=>some (bif ok then .tuple #[e.val,.bool true] else e.val)
    |none=>none
   |some none=>match zeroF P et with
    |some z=>some (bif ok then .tuple #[z,.bool false] else z)
    |none=>none
   |none=>none
 |_,_,_=>none
theorem lookupT_eq (tm:TV) (h:H) (t:TypeId) (x ix:Operand) (ok:Bool):lookupT P G tm h t x ix ok=lookupN P G tm h t x ix ok:=by
 unfold lookupT lookupN
 simp only [undF_eq,zeroF_eq]
 try rfl
def lenT (P:Program) (G:Nat) (tm:TV) (h:H) (t:TypeId) (x:Operand):Option Value:=
 match undF P t,aeval G tm x with
 |some .string,some (.string s)=>some (.int .i64 s.size)
 |some (.slice _),some (.slice _ n _)=>some (.int .i64 n)
 |some (.array n _),some _=>some (.int .i64 n)
 |some (.map _ _),some (.map none)=>some (.int .i64 0)
 |some (.map _ _),some (.map (some r))=>match h.hp.get r with|some (.map es _)=>some (.int .i64 es.length)|_=>none
 |_,_=>none
theorem lenT_eq (tm:TV) (h:H) (t:TypeId) (x:Operand):lenT P G tm h t x=lenN P G tm h t x:=by
 unfold lenT lenN
 simp only [undF_eq]
 try rfl
def capT (P:Program) (G:Nat) (tm:TV) (t:TypeId) (x:Operand):Option Value:=
 match undF P t,aeval G tm x with
 |some (.slice _),some (.slice none _ n)=>some (.int .i64 n)
 |some (.slice _),some (.slice (some _) _ c)=>bif capEx c then some (.int .i64 (capLo c)) else none
 |_,_=>none
theorem capT_eq (tm:TV) (t:TypeId) (x:Operand):capT P G tm t x=capN P G tm t x:=by
 unfold capT capN
 simp only [undF_eq]
 try rfl
def builtinT (P:Program) (G:Nat) (tm:TV) (h:H) (b:Builtin) (args:Array Operand) (ats:Array TypeId):Option Value:=
 match b with
 | .len=>match args.toList,ats.toList with|[x],[t]=>lenT P G tm h t x|_,_=>none
 | .cap=>match args.toList,ats.toList with|[x],[t]=>capT P G tm t x|_,_=>none
 | .min=>minMaxN P G tm false ats args
 | .max=>minMaxN P G tm true ats args
 |_=>none
theorem builtinT_eq (tm:TV) (h:H) (b:Builtin) (args:Array Operand) (ats:Array TypeId):builtinT P G tm h b args ats=builtinN P G tm h b args ats:=by
 unfold builtinT builtinN
 simp only [lenT_eq,capT_eq]
 try rfl
def callT (P:Program) (G:Nat) (tm:TV) (h:H) (c:Call):Option Value:=
 match c.callee with
 | .builtin b=>builtinT P G tm h b c.args c.argTypes
 |_=>none
theorem callT_eq (tm:TV) (h:H) (c:Call):callT P G tm h c=callN P G tm h c:=by
 unfold callT callN
 simp only [builtinT_eq]
 try rfl
def appendT (P:Program) (G:Nat) (h:H) (st xt:TypeId) (s x:Value):Option (Value×H):=
 match undF P st,undF P xt,s,lenA x with
 |some (.slice _),some (.int _),_,_=>none
 |some (.slice elem),some _,.slice base sLen c,some n=>
  match sizeF P elem,zeroF P elem with
  |some size,some z=>
   bif Nat.beq z.cells.size size&&Nat.blt 0 size&&Nat.ble (sLen+n) 1048576&&Nat.ble ((infoF P elem).elim 0 (·.bytes)) 1048576 then
    match cellsOf h size n x with
    |some new=>bif Nat.beq new.length (n*size) then appendTo G h size n new base sLen c else none
    |none=>none
   else none
  |_,_=>none
 |_,_,_,_=>none
theorem appendT_eq (h:H) (st xt:TypeId) (s x:Value):appendT P G h st xt s x=appendA P G h st xt s x:=by
 unfold appendT appendA
 simp only [undF_eq,sizeF_eq,zeroF_eq,infoF_eq]
 try rfl
def convertTE (P:Program) (G:Nat) (tm:TV) (h:H) (s d:TypeId) (x:Operand):Option LR:=
 match undF P s,undF P d,aeval G tm x with
 |some .string,some (.slice e),some (.string b)=>match undF P e with
  |some (.int .u8)=>bif Nat.ble b.size 1048576 then some (.val (.slice (some ⟨h.nx,0,none⟩) b.size (loCap b.size 1)) (h.new (.cells (b.data.toList.map fun c=> .int .u8 c.toNat)))) else none
  |_=>none
 |some (.slice _),some (.slice e),some (.slice (some ⟨i,k,none⟩) len c)=>match undF P e,h.cells i with
  |some (.int .u8),some cs=>bif Nat.beq s d&&Nat.ble G i then some (.val (.slice (some ⟨i,k,none⟩) len c) (h.put i (some (.cells cs)))) else none
  |_,_=>none
 |_,_,_=>none
theorem convertTE_eq (tm:TV) (h:H) (s d:TypeId) (x:Operand):convertTE P G tm h s d x=convertE P G tm h s d x:=by
 unfold convertTE convertE
 simp only [undF_eq]
 try rfl
def mapUpdateT (P:Program) (G:Nat) (tm:TV) (h:H) (t:TypeId) (m k x:Operand):Option LR:=
 match undF P t,(aeval G tm m).bind (mapA G h),aeval G tm k,aeval G tm x with
 |some (.map kt _),some (r,es,clock),some k,some x=>
  match findA P false kt k es with
  |some (some i)=>match es[i]? with
   |some e=>bif Instr.sameBits 10000 e.key k then some (.val undef (h.put r (some (.map (es.set i {e with key:=k,val:=x}) clock)))) else none
   |none=>none
  |some none=>some (.val undef (h.put r (some (.map (es++[{key:=k,val:=x,born:=clock}]) (clock+1)))))
  |none=>none
 |_,_,_,_=>none
theorem mapUpdateT_eq (tm:TV) (h:H) (t:TypeId) (m k x:Operand):mapUpdateT P G tm h t m k x=mapUpdateE P G tm h t m k x:=by
 unfold mapUpdateT mapUpdateE
 simp only [undF_eq]
 try rfl
def mapEntryT (P:Program) (G:Nat) (tm:TV) (h:H) (t:TypeId) (m k:Operand):Option LR:=
 match undF P t,(aeval G tm m).bind (mapA G h),aeval G tm k with
 |some (.map kt et),some (r,es,clock),some k=>
  match findA P false kt k es,zeroF P et with
  |some (some i),_=>match es[i]? with
   |some e=>bif Instr.sameBits 10000 e.key k then
     some (.val (.tuple #[e.val,.int .i64 e.born]) (h.put r (some (.map (es.set i {e with key:=k}) clock)))) else none
   |none=>none
  |some none,some z=>some (.val (.tuple #[z,.int .i64 clock]) (h.put r (some (.map (es++[{key:=k,val:=z,born:=clock}]) (clock+1)))))
  |_,_=>none
 |_,_,_=>none
theorem mapEntryT_eq (tm:TV) (h:H) (t:TypeId) (m k:Operand):mapEntryT P G tm h t m k=mapEntryE P G tm h t m k:=by
 unfold mapEntryT mapEntryE
 simp only [undF_eq,zeroF_eq]
 try rfl
def rangeT (P:Program) (G:Nat) (tm:TV) (h:H) (t:TypeId) (x:Operand):Option LR:=
 match undF P t,aeval G tm x with
 |some .string,some (.string s)=>some (.val (.pointer (some ⟨h.nx,0,none⟩)) (h.new (.text s 0)))
 |some (.map _ _),some (.map none)=>some (.val (.pointer (some ⟨h.nx,0,none⟩)) (h.new (.walk none 0 [] 0)))
 |some (.map _ _),some (.map (some m))=>match h.hp.get m with
  |some (.map _ clock)=>some (.val (.pointer (some ⟨h.nx,0,none⟩)) (h.new (.walk (some m) clock [] clock)))
  |_=>none
 |_,_=>none
theorem rangeT_eq (tm:TV) (h:H) (t:TypeId) (x:Operand):rangeT P G tm h t x=rangeE P G tm h t x:=by
 unfold rangeT rangeE
 simp only [undF_eq]
 try rfl
def funcT (P:Program) (G:Nat) (h:H) (g:FuncId) (args:List Value):Option LR:=
 match fnF P g with
 |some fn=>
  match fn.body with
  |some _=>some (.enter g args)
  |none=>match externE P h g args with
   |some r=>some r
   |none=>bif Nat.blt P.globals.size G&&fn.origin== "" then entryA P G h fn args else none
 |none=>none
theorem funcT_eq (h:H) (g:FuncId) (args:List Value):funcT P G h g args=funcE P G h g args:=by
 unfold funcT funcE
 simp only [fnF_eq]
 try rfl
def callTT (P:Program) (G:Nat) (tm:TV) (h:H) (f:Operand) (args:Array Operand):Option LR:=
 match aeval G tm f,aevalL G tm args.toList with
 |some (.func fn first captured),some args=>match fn with
  | .func g=>funcT P G h g (first.toList++args++captured.toList)
  | .yield l=>bif first.isEmpty&&captured.isEmpty then some (.round l args) else none
  |_=>none
 |_,_=>none
theorem callTT_eq (tm:TV) (h:H) (f:Operand) (args:Array Operand):callTT P G tm h f args=callE P G tm h f args:=by
 unfold callTT callE
 simp only [funcT_eq]
 try rfl
def copyT (P:Program) (G:Nat) (h:H) (t:TypeId) (d x:Value):Option LR:=
 match undF P t,d,lenA x with
 |some (.slice elem),.slice base dLen _,some n=>match sizeF P elem with
  |some size=>match cellsOf h size (min n dLen) x,base with
   |some new,some ⟨i,k,none⟩=>match h.write G i k new with|some h'=>some (LR.val (.int .i64 (min n dLen:Nat)) h')|none=>none
   |some [],none=>some (.val (.int .i64 (min n dLen:Nat)) h)
   |_,_=>none
  |none=>none
 |_,_,_=>none
theorem copyT_eq (h:H) (t:TypeId) (d x:Value):copyT P G h t d x=copyE P G h t d x:=by
 unfold copyT copyE
 simp only [undF_eq,sizeF_eq]
 try rfl
def deleteT (P:Program) (G:Nat) (h:H) (t:TypeId) (m k:Value):Option LR:=
 match undF P t,mapA G h m with
 |some (.map kt _),some (r,es,clock)=>
  match findA P es.isEmpty kt k es with
  |some (some i)=>some (.val (.tuple #[]) (h.put r (some (.map (es.eraseIdx i) clock))))
  |some none=>some (.val (.tuple #[]) (h.put r (some (.map es clock))))
  |none=>none
 |_,_=>none
theorem deleteT_eq (h:H) (t:TypeId) (m k:Value):deleteT P G h t m k=deleteE P G h t m k:=by
 unfold deleteT deleteE
 simp only [undF_eq]
 try rfl
def clearT (P:Program) (G:Nat) (h:H) (t:TypeId) (m:Value):Option LR:=
 match undF P t,mapA G h m with
 |some (.map _ _),some (r,_,clock)=>some (.val (.tuple #[]) (h.put r (some (.map [] clock))))
 |_,_=>none
theorem clearT_eq (h:H) (t:TypeId) (m:Value):clearT P G h t m=clearE P G h t m:=by
 unfold clearT clearE
 simp only [undF_eq]
 try rfl
def builtinTE (P:Program) (G:Nat) (rd:Option Nat) (tm:TV) (h:H) (b:Builtin) (args:Array Operand) (ats:Array TypeId):Option LR:=
 match b,aevalL G tm args.toList,ats.toList with
 | .append,some [s,x],[t,u]=>match appendT P G h t u s x with|some (v,h')=>some (.val v h')|none=>none
 | .copy,some [d,x],t::_=>copyT P G h t d x
 | .delete,some [m,k],t::_=>deleteT P G h t m k
 | .clear,some [m],t::_=>clearT P G h t m
 | .recover,some [],_=>match rd with|none=>some .recover|some _=>none
 |_,_,_=>none
theorem builtinTE_eq (rd:Option Nat) (tm:TV) (h:H) (b:Builtin) (args:Array Operand) (ats:Array TypeId):builtinTE P G rd tm h b args ats=builtinE P G rd tm h b args ats:=by
 unfold builtinTE builtinE
 simp only [appendT_eq,copyT_eq,deleteT_eq,clearT_eq]
 try rfl
def anyCallT (P:Program) (G:Nat) (rd:Option Nat) (tm:TV) (h:H) (c:Call):Option LR:=
 match c.callee with
 | .value f=>callTT P G tm h f c.args
 | .builtin b=>builtinTE P G rd tm h b c.args c.argTypes
 |_=>none
theorem anyCallT_eq (rd:Option Nat) (tm:TV) (h:H) (c:Call):anyCallT P G rd tm h c=anyCallE P G rd tm h c:=by
 unfold anyCallT anyCallE
 simp only [callTT_eq,builtinTE_eq]
 try rfl
def convCls (a b:Option TypeDesc):Cls:=
 match a,b with
 |some .string,some (.slice _)=> .acts
 |some (.slice _),some (.slice _)=> .acts
 |_,_=> .reads
def clsT (P:Program):Op→Cls
 | .move _=> .reads
 | .assign _=> .reads
 | .pick .. => .reads
 | .build .. => .reads
 | .load .. => .reads
 | .nilCheck _=> .reads
 | .binOp .. => .reads
 | .unOp .. => .reads
 | .makeInterface .. => .reads
 | .makeFunc .. => .reads
 | .slice .. => .reads
 | .fieldAddr .. => .reads
 | .field .. => .reads
 | .indexAddr .. => .reads
 | .index .. => .reads
 | .lookup .. => .reads
 | .extract .. => .reads
 | .entry _=> .reads
 | .convert s d _=>match undF P s,undF P d with
   |some .string,some (.slice _)=> .acts
   |some (.slice _),some (.slice _)=> .acts
   |_,_=> .reads
 | .call c=>match c.callee with
   | .builtin b=>match b with
     | .len=> .reads
     | .cap=> .reads
     | .min=> .reads
     | .max=> .reads
     |_=> .acts
   |_=> .acts
 | .alloc _=> .makes
 | .box .. => .makes
 | .buildSlice .. => .makes
 | .makeMap .. => .makes
 | .makeSlice .. => .makes
 | .next .. => .next
 |_=> .acts
theorem clsT_eq (op:Op):clsT P op=cls P op:=by cases op<;>first|rfl|(unfold clsT cls;simp only [undF_eq];rfl)
end Go.CE
namespace Go.CE
open Go Go.RowKit
variable {P:Program} {G:Nat}
def loadAF (P:Program) (h:H) (t:TypeId) (i k:Nat):Option Value:=
 Option.rec (motive:=fun _=>Option Value) none
  (fun b=>Bool.rec (motive:=fun _=>Option Value)
    (Option.rec (motive:=fun _=>Option Value) none (fun l=>List.rec (motive:=fun _=>Option Value) none (fun v r _=>List.rec (motive:=fun _=>Option Value) (some v) (fun _ _ _=>none) r) l) (readF h i k 1))
    (Option.rec (motive:=fun _=>Option Value) none (fun n=>Option.rec (motive:=fun _=>Option Value) none (fun l=>some (.agg l.toArray)) (readF h i k n)) (sizeF P t)) b)
  (aggF P t)
theorem loadAF_eq (h:H) (t:TypeId) (i k:Nat):loadAF P h t i k=h.loadA P t i k:=by
 unfold loadAF H.loadA
 rw [aggF_eq,sizeF_eq]
 cases hb:isAggA P t with
 |none=>cases sizeA P t<;>rfl
 |some b=>
  cases b with
  |false=>
   rw [readF_eq]
   cases hs:sizeA P t<;>(cases hr:h.read i k 1 with
    |none=>rfl
    |some l=>cases l with
     |nil=>rfl
     |cons v r=>cases r<;>rfl)
  |true=>
   cases hs:sizeA P t with
   |none=>rfl
   |some n=>show Option.rec (motive:=fun _=>Option Value) none (fun l=>some (.agg l.toArray)) (readF h i k n)=(h.read i k n).map fun l=> .agg l.toArray
            rw [readF_eq]
            cases h.read i k n<;>rfl
def loadF (P:Program) (G:Nat) (tm:TV) (h:H) (t:TypeId) (x:Operand):Option Value:=
 match aeval G tm x with
 |some (.pointer (some ⟨i,k,none⟩))=>loadAF P h t i k
 |_=>none
theorem loadF_eq (tm:TV) (h:H) (t:TypeId) (x:Operand):loadF P G tm h t x=loadN P G tm h t x:=by
 unfold loadF loadN
 simp only [loadAF_eq]
 rfl
def textOpF (op:BinOp) (a b:ByteArray):Option Value:=
 BinOp.rec (motive:=fun _=>ByteArray→ByteArray→Option Value) (add:=fun _ _=>none) (sub:=fun _ _=>none) (mul:=fun _ _=>none) (quo:=fun _ _=>none) (rem:=fun _ _=>none)
  (and:=fun _ _=>none) (or:=fun _ _=>none) (xor:=fun _ _=>none) (shl:=fun _ _=>none) (shr:=fun _ _=>none) (andNot:=fun _ _=>none)
  (eql:=fun a b=>some (.bool (beqL a.data.toList b.data.toList))) (neq:=fun a b=>some (.bool (not (beqL a.data.toList b.data.toList)))) (lss:=fun _ _=>none) (leq:=fun _ _=>none)
  (gtr:=fun _ _=>none) (geq:=fun _ _=>none) op a b
theorem textOpF_eq {op:BinOp} {t:TypeId} {x y:Operand} {a b:ByteArray} {v:Value} (h:textOpF op a b=some v):pureBin P op t x y (.string a) (.string b)=some v:=by
 cases op<;>first|cases h|skip
 ·show afv (pureRun P (pure (.bool (a.toList==b.toList))))=some (.bool (beqL a.data.toList b.data.toList))
  rw [beqL_eq,toList_data,toList_data];rfl
 ·show afv (pureRun P (pure (.bool (!(a.toList==b.toList)))))=some (.bool (not (beqL a.data.toList b.data.toList)))
  rw [beqL_eq,toList_data,toList_data];rfl
def binVF (P:Program) (op:BinOp) (t:TypeId) (x y:Operand) (a b:Value):Option Value:=
 match a,b with
 | .int k m,.int k' n=>match (bif decide (k=k') then intOpF op k m n else none) with
   |some v=>some v
   |none=>pureBinT P op t x y a b
 | .string s,.string s'=>match textOpF op s s' with
   |some v=>some v
   |none=>pureBinT P op t x y a b
 |_,_=>pureBinT P op t x y a b
def binOpF (P:Program) (G:Nat) (tm:TV) (op:BinOp) (t:TypeId) (x y:Operand):Option Value:=
 Option.rec (motive:=fun _=>Option Value) none (fun a=>Option.rec (motive:=fun _=>Option Value) none (fun b=>binVF P op t x y a b) (aeval G tm y)) (aeval G tm x)
theorem binOpF_eq (tm:TV) (op:BinOp) (t:TypeId) (x y:Operand):binOpF P G tm op t x y=binOpN P G tm op t x y:=by
 unfold binOpF binOpN
 cases aeval G tm x with
 |none=>rfl
 |some a=>
  cases aeval G tm y with
  |none=>rfl
  |some b=>
   show binVF P op t x y a b=_
   unfold binVF
   simp only [pureBinT_eq]
   split
   ·rename_i k m k' n
    show _=(match (bif decide (k=k') then intOp op k m n else none) with|some v=>some v|none=>_)
    rw [intOpF_eq]
   ·rename_i s s'
    show _=pureBin P op t x y (.string s) (.string s')
    split
    ·rename_i v hv;exact (textOpF_eq hv).symm
    ·rfl
   ·rename_i h1 h2
    show _=(match a,b with
     | .int k m,.int k' n=>match (bif decide (k=k') then intOp op k m n else none) with
       |some v=>some v
       |none=>pureBin P op t x y a b
     |_,_=>pureBin P op t x y a b)
    split
    ·rename_i k m k' n
     exact (h1 k m k' n rfl rfl).elim
    ·rfl
def placeF (P:Program) (elem:TypeId) (i k n:Nat) (j:Int):Option Value:=
 Option.rec (motive:=fun _=>Option Value) none
  (fun size=>Int.rec (motive:=fun _=>Option Value) (fun m=>Bool.rec (motive:=fun _=>Option Value) none (some (.pointer (some ⟨i,Nat.add k (Nat.mul m size),none⟩))) (Nat.blt m n)) (fun _=>none) j) (sizeF P elem)
theorem placeF_eq (elem:TypeId) (i k n:Nat) (j:Int):placeF P elem i k n j=placeN P elem i k n j:=by
 unfold placeF placeN
 rw [sizeF_eq]
 cases sizeA P elem with
 |none=>rfl
 |some size=>
  cases j with
  |ofNat m=>
   show Bool.rec (motive:=fun _=>Option Value) none (some (.pointer (some ⟨i,Nat.add k (Nat.mul m size),none⟩))) (Nat.blt m n)=bif decide (0≤Int.ofNat m)&&decide (Int.ofNat m<n) then some (.pointer (some ⟨i,k+(Int.ofNat m).toNat*size,none⟩)) else none
   have e:(decide (0≤Int.ofNat m)&&decide (Int.ofNat m<n))=Nat.blt m n:=by
    rw [Bool.eq_iff_iff,Nat.blt_eq];simp
   rw [e]
   cases Nat.blt m n<;>rfl
  |negSucc m=>
   show none=bif decide (0≤Int.negSucc m)&&decide (Int.negSucc m<n) then some (Value.pointer (some ⟨i,k+(Int.negSucc m).toNat*size,none⟩)) else none
   have e:decide (0≤Int.negSucc m)=false:=by rw [decide_eq_false_iff_not];have:=Int.negSucc_lt_zero m;omega
   rw [e];rfl
def indexAddrF (P:Program) (G:Nat) (tm:TV) (t:TypeId) (x ix:Operand):Option Value:=
 match undF P t,aeval G tm x,aeval G tm ix with
 |some (.array n elem),some (.pointer (some ⟨i,k,none⟩)),some (.int _ j)=>placeF P elem i k n j
 |some (.slice elem),some (.slice (some ⟨i,k,none⟩) n _),some (.int _ j)=>placeF P elem i k n j
 |_,_,_=>none
theorem indexAddrF_eq (tm:TV) (t:TypeId) (x ix:Operand):indexAddrF P G tm t x ix=indexAddrN P G tm t x ix:=by
 unfold indexAddrF indexAddrN
 simp only [placeF_eq,undF_eq]
 rfl
def byteAt (s:ByteArray) (j:Int):Option Value:=
 Int.rec (motive:=fun _=>Option Value) (fun m=>Option.rec (motive:=fun _=>Option Value) none (fun b=>some (.int .u8 (Int.ofNat b.toNat))) (nthF s.data.toList m)) (fun _=>none) j
theorem byteAt_eq (s:ByteArray) (j:Int):byteAt s j=bif decide (0≤j) then (match s.data.toList[j.toNat]? with|some b=>some (.int .u8 b.toNat)|none=>none) else none:=by
 cases j with
 |ofNat m=>
  show Option.rec (motive:=fun _=>Option Value) none (fun b=>some (.int .u8 (Int.ofNat b.toNat))) (nthF s.data.toList m)=_
  rw [nthF_eq]
  have e:decide ((0:Int)≤Int.ofNat m)=true:=by simp
  rw [e,cond_true]
  show _=(match s.data.toList[m]? with|some b=>some (Value.int .u8 b.toNat)|none=>none)
  cases s.data.toList[m]? <;>rfl
 |negSucc m=>
  have e:decide ((0:Int)≤Int.negSucc m)=false:=by rw [decide_eq_false_iff_not];have:=Int.negSucc_lt_zero m;omega
  rw [e];rfl
def indexF (P:Program) (G:Nat) (tm:TV) (t:TypeId) (x ix:Operand):Option Value:=
 match undF P t,aeval G tm x,aeval G tm ix with
 |some .string,some (.string s),some (.int _ j)=>byteAt s j
 |some (.array n elem),some (.agg cs),some (.int _ j)=>match sizeF P elem with
  |some size=>bif decide (0≤j)&&decide (j<n) then partT P elem cs.toList (j.toNat*size) else none
  |none=>none
 |_,_,_=>none
theorem indexF_eq (tm:TV) (t:TypeId) (x ix:Operand):indexF P G tm t x ix=indexN P G tm t x ix:=by
 unfold indexF indexN
 simp only [byteAt_eq,undF_eq,sizeF_eq,partT_eq]
 rfl
abbrev AN:=Program→Nat→TV→H→Option Value
def aopNF (op:Op):AN:=
 Op.rec (motive:=fun _=>AN)
  (move:=fun x _ G tm _=>aeval G tm x) (assign:=fun x _ G tm _=>aeval G tm x) (pick:=fun c a b _ G tm _=>pickN G tm c a b) (alloc:=fun _ _ _ _ _=>none) (box:=fun _ _ _ _ _ _=>none)
  (build:=fun t parts P G tm _=>buildT P G tm t parts) (buildSlice:=fun _ _ _ _ _ _ _=>none) (insert:=fun _ _ _ _ _ _ _ _=>none) (load:=fun t x P G tm h=>loadF P G tm h t x) (store:=fun _ _ _ _ _ _ _=>none)
  (ready:=fun _ _ _ _ _=>none) (waits:=fun _ _ _ _ _=>none) (nilCheck:=fun x _ G tm _=>nilCheckN G tm x) (binOp:=fun op t x y _ P G tm _=>binOpF P G tm op t x y) (unOp:=fun op _ x P G tm _=>unOpN P G tm op x)
  (convert:=fun s d x P G tm h=>convertT P G tm h s d x) (sliceToArrayPointer:=fun _ _ _ _ _ _=>none) (makeInterface:=fun t x P G tm _=>makeInterfaceT P G tm t x) (makeFunc:=fun fn first captured _ G tm _=>makeFuncN G tm fn first captured)
  (makeMap:=fun _ _ _ _ _ _=>none) (makeChan:=fun _ _ _ _ _ _=>none) (makeSlice:=fun _ _ _ _ _ _ _=>none) (slice:=fun t x lo hi mx P G tm _=>sliceTN P G tm t x lo hi mx) (fieldAddr:=fun s x f P G tm _=>fieldAddrT P G tm s x f)
  (field:=fun s x f P G tm _=>fieldT P G tm s x f) (indexAddr:=fun t x ix P G tm _=>indexAddrF P G tm t x ix) (index:=fun t x ix P G tm _=>indexF P G tm t x ix) (lookup:=fun t x ix ok P G tm h=>lookupT P G tm h t x ix ok)
  (mapUpdate:=fun _ _ _ _ _ _ _ _=>none) (mapEntry:=fun _ _ _ _ _ _ _=>none) (entryStore:=fun _ _ _ _ _ _ _ _=>none) (range:=fun _ _ _ _ _ _=>none) (next:=fun _ _ _ _ _ _=>none) (entry:=fun x _ G tm h=>entryN G tm h x)
  (typeAssert:=fun _ _ _ _ _ _ _ _=>none) (extract:=fun x i _ G tm _=>extractN G tm x i) (call:=fun c P G tm h=>callT P G tm h c) (go:=fun _ _ _ _ _=>none) (defer:=fun _ _ _ _ _=>none) (panic:=fun _ _ _ _ _=>none)
  (send:=fun _ _ _ _ _ _=>none) (recv:=fun _ _ _ _ _ _ _=>none) (select:=fun _ _ _ _ _ _=>none) op
theorem aopNF_eq (op:Op) (tm:TV) (h:H):aopNF op P G tm h=aopN P G tm h op:=by
 cases op with
 |load t x=>exact loadF_eq _ _ _ _
 |binOp op t x y u=>exact binOpF_eq _ _ _ _ _
 |indexAddr t x ix=>exact indexAddrF_eq _ _ _ _
 |index t x ix=>exact indexF_eq _ _ _ _
 |build t parts=>exact buildT_eq _ _ _
 |convert s d x=>exact convertT_eq _ _ _ _ _
 |makeInterface t x=>exact makeInterfaceT_eq _ _ _
 |slice t x lo hi mx=>exact sliceTN_eq _ _ _ _ _ _
 |fieldAddr s x f=>exact fieldAddrT_eq _ _ _ _
 |field s x f=>exact fieldT_eq _ _ _ _
 |lookup t x ix ok=>exact lookupT_eq _ _ _ _ _ _
 |call c=>exact callT_eq _ _ _
 |_=>rfl
abbrev AA:=Program→Nat→TV→Nat→Option (Value×AObj)
def aopAF (op:Op):AA:=
 Op.rec (motive:=fun _=>AA)
  (move:=fun _ _ _ _ _=>none) (assign:=fun _ _ _ _ _=>none) (pick:=fun _ _ _ _ _ _ _=>none) (alloc:=fun elem P _ _ id=>allocT P id elem) (box:=fun _ x _ G tm id=>boxA G tm id x)
  (build:=fun _ _ _ _ _ _=>none) (buildSlice:=fun t len parts P G tm id=>buildSliceT P G tm id t len parts) (insert:=fun _ _ _ _ _ _ _ _=>none) (load:=fun _ _ _ _ _ _=>none) (store:=fun _ _ _ _ _ _ _=>none)
  (ready:=fun _ _ _ _ _=>none) (waits:=fun _ _ _ _ _=>none) (nilCheck:=fun _ _ _ _ _=>none) (binOp:=fun _ _ _ _ _ _ _ _ _=>none) (unOp:=fun _ _ _ _ _ _ _=>none)
  (convert:=fun _ _ _ _ _ _ _=>none) (sliceToArrayPointer:=fun _ _ _ _ _ _=>none) (makeInterface:=fun _ _ _ _ _ _=>none) (makeFunc:=fun _ _ _ _ _ _ _=>none)
  (makeMap:=fun t r P G tm id=>makeMapT P G tm id t r) (makeChan:=fun _ _ _ _ _ _=>none) (makeSlice:=fun t l c P G tm id=>makeSliceT P G tm id t l c) (slice:=fun _ _ _ _ _ _ _ _ _=>none) (fieldAddr:=fun _ _ _ _ _ _ _=>none)
  (field:=fun _ _ _ _ _ _ _=>none) (indexAddr:=fun _ _ _ _ _ _ _=>none) (index:=fun _ _ _ _ _ _ _=>none) (lookup:=fun _ _ _ _ _ _ _ _=>none)
  (mapUpdate:=fun _ _ _ _ _ _ _ _=>none) (mapEntry:=fun _ _ _ _ _ _ _=>none) (entryStore:=fun _ _ _ _ _ _ _ _=>none) (range:=fun _ _ _ _ _ _=>none) (next:=fun _ _ _ _ _ _=>none) (entry:=fun _ _ _ _ _=>none)
  (typeAssert:=fun _ _ _ _ _ _ _ _=>none) (extract:=fun _ _ _ _ _ _=>none) (call:=fun _ _ _ _ _=>none) (go:=fun _ _ _ _ _=>none) (defer:=fun _ _ _ _ _=>none) (panic:=fun _ _ _ _ _=>none)
  (send:=fun _ _ _ _ _ _=>none) (recv:=fun _ _ _ _ _ _ _=>none) (select:=fun _ _ _ _ _ _=>none) op
theorem aopAF_eq (op:Op) (tm:TV) (id:Nat):aopAF op P G tm id=aopA P G tm id op:=by
 cases op with
 |alloc elem=>exact allocT_eq _ _
 |buildSlice t len parts=>exact buildSliceT_eq _ _ _ _ _
 |makeMap t r=>exact makeMapT_eq _ _ _ _
 |makeSlice t l c=>exact makeSliceT_eq _ _ _ _ _
 |_=>rfl
def storeF (P:Program) (G:Nat) (tm:TV) (h:H) (t:TypeId) (a x:Operand):Option LR:=
 match aeval G tm a,aeval G tm x,sizeF P t with
 |some (.pointer (some ⟨i,k,none⟩)),some v,some n=>
  bif Nat.beq v.cells.size n then Option.rec (motive:=fun _=>Option LR) none (fun h'=>some (LR.val undef h')) (writeF G h i k v.cells.toList) else none
 |_,_,_=>none
theorem storeF_eq (tm:TV) (h:H) (t:TypeId) (a x:Operand):storeF P G tm h t a x=storeE P G tm h t a x:=by
 unfold storeF storeE
 simp only [writeF_eq,sizeF_eq]
 have e:∀ (i k:Nat) (v:Value),Option.rec (motive:=fun _=>Option LR) none (fun h'=>some (LR.val undef h')) (h.write G i k v.cells.toList)=(match h.write G i k v.cells.toList with|some h'=>some (LR.val undef h')|none=>none):=by
  intro i k v;cases h.write G i k v.cells.toList<;>rfl
 simp only [e]
 rfl
abbrev AE:=Program→Nat→Option Nat→TV→H→Option LR
def aopEF (op:Op):AE:=
 Op.rec (motive:=fun _=>AE)
  (move:=fun _ _ _ _ _ _=>none) (assign:=fun _ _ _ _ _ _=>none) (pick:=fun _ _ _ _ _ _ _ _=>none) (alloc:=fun _ _ _ _ _ _=>none) (box:=fun _ _ _ _ _ _ _=>none)
  (build:=fun _ _ _ _ _ _ _=>none) (buildSlice:=fun _ _ _ _ _ _ _ _=>none) (insert:=fun t m k x P G _ tm h=>mapUpdateT P G tm h t m k x) (load:=fun _ _ _ _ _ _ _=>none) (store:=fun t a x P G _ tm h=>storeF P G tm h t a x)
  (ready:=fun _ _ _ _ _ _=>none) (waits:=fun _ _ _ _ _ _=>none) (nilCheck:=fun _ _ _ _ _ _=>none) (binOp:=fun _ _ _ _ _ _ _ _ _ _=>none) (unOp:=fun _ _ _ _ _ _ _ _=>none)
  (convert:=fun s d x P G _ tm h=>convertTE P G tm h s d x) (sliceToArrayPointer:=fun _ _ _ _ _ _ _=>none) (makeInterface:=fun _ _ _ _ _ _ _=>none) (makeFunc:=fun _ _ _ _ _ _ _ _=>none)
  (makeMap:=fun _ _ _ _ _ _ _=>none) (makeChan:=fun _ _ _ _ _ _ _=>none) (makeSlice:=fun _ _ _ _ _ _ _ _=>none) (slice:=fun _ _ _ _ _ _ _ _ _ _=>none) (fieldAddr:=fun _ _ _ _ _ _ _ _=>none)
  (field:=fun _ _ _ _ _ _ _ _=>none) (indexAddr:=fun _ _ _ _ _ _ _ _=>none) (index:=fun _ _ _ _ _ _ _ _=>none) (lookup:=fun _ _ _ _ _ _ _ _ _=>none)
  (mapUpdate:=fun t m k x P G _ tm h=>mapUpdateT P G tm h t m k x) (mapEntry:=fun t m k P G _ tm h=>mapEntryT P G tm h t m k) (entryStore:=fun _ m s x _ G _ tm h=>entryStoreE G tm h m s x) (range:=fun t x P G _ tm h=>rangeT P G tm h t x)
  (next:=fun _ _ _ _ _ _ _=>none) (entry:=fun _ _ _ _ _ _=>none)
  (typeAssert:=fun _ _ _ _ _ _ _ _ _=>none) (extract:=fun _ _ _ _ _ _ _=>none) (call:=fun c P G rd tm h=>anyCallT P G rd tm h c) (go:=fun _ _ _ _ _ _=>none) (defer:=fun c _ G rd tm _=>deferE G rd tm c) (panic:=fun _ _ _ _ _ _=>none)
  (send:=fun _ _ _ _ _ _ _=>none) (recv:=fun _ _ _ _ _ _ _ _=>none) (select:=fun _ _ _ _ _ _ _=>none) op
theorem aopEF_eq (op:Op) (rd:Option Nat) (tm:TV) (h:H):aopEF op P G rd tm h=aopE P G rd tm h op:=by
 cases op with
 |store t a x=>exact storeF_eq _ _ _ _ _
 |insert t m k x=>exact mapUpdateT_eq _ _ _ _ _ _
 |mapUpdate t m k x=>exact mapUpdateT_eq _ _ _ _ _ _
 |convert s d x=>exact convertTE_eq _ _ _ _ _
 |mapEntry t m k=>exact mapEntryT_eq _ _ _ _ _
 |range t x=>exact rangeT_eq _ _ _ _
 |call c=>exact anyCallT_eq _ _ _ _
 |_=>rfl
def readsV (df:List Deferred) (h:H) (o:Option Value):Option (List V3):=Option.rec (motive:=fun _=>Option (List V3)) none (fun v=>some [⟨v,df,h⟩]) o
def makesV (df:List Deferred) (h:H) (o:Option (Value×AObj)):Option (List V3):=Option.rec (motive:=fun _=>Option (List V3)) none (fun p=>some [⟨p.1,df,h.new p.2⟩]) o
def actsV (G:Nat) (ih:Task→Option (List Out)) (df:List Deferred) (h:H) (o:Option LR):Option (List V3):=Option.rec (motive:=fun _=>Option (List V3)) none (fun r=>runLR G ih h df r) o
abbrev RV:=Program→Nat→(Task→Option (List Out))→Option Nat→Op→TV→List Deferred→H→Option (List V3)
def nextV (G:Nat) (op:Op) (tm:TV) (df:List Deferred) (h:H):Option (List V3):=
 match op with
 | .next x str=>match nextX G tm h x str with
   |some l=>some (l.map fun p=>⟨p.1,df,p.2⟩)
   |none=>none
 |_=>none
def runCF (c:Cls):RV:=
 Cls.rec (motive:=fun _=>RV) (reads:=fun P G _ _ op tm df h=>readsV df h (aopNF op P G tm h)) (makes:=fun P G _ _ op tm df h=>makesV df h (aopAF op P G tm h.nx))
  (acts:=fun P G ih rd op tm df h=>actsV G ih df h (aopEF op P G rd tm h)) (next:=fun _ G _ _ op tm df h=>nextV G op tm df h) c
def runOpVF (P:Program) (G:Nat) (ih:Task→Option (List Out)) (rd:Option Nat) (op:Op) (tm:TV) (df:List Deferred) (h:H):Option (List V3):=runCF (clsT P op) P G ih rd op tm df h
theorem runOpVF_eq (ih:Task→Option (List Out)) (rd:Option Nat) (op:Op) (tm:TV) (df:List Deferred) (h:H):runOpVF P G ih rd op tm df h=runOpV P G ih rd op tm df h:=by
 unfold runOpVF runOpV
 rw [clsT_eq]
 cases cls P op with
 |reads=>show readsV df h (aopNF op P G tm h)=_;rw [aopNF_eq];cases aopN P G tm h op<;>rfl
 |makes=>show makesV df h (aopAF op P G tm h.nx)=_;rw [aopAF_eq];cases aopA P G tm h.nx op<;>rfl
 |acts=>show actsV G ih df h (aopEF op P G rd tm h)=_;rw [aopEF_eq];cases aopE P G rd tm h op<;>rfl
 |next=>rfl
def obindF {α β:Type} (o:Option (List α)) (f:α→Option (List β)):Option (List β):=
 Option.rec (motive:=fun _=>Option (List β)) none (fun l=>List.rec (motive:=fun _=>Option (List β)) (some []) (fun a t _=>List.rec (motive:=fun _=>Option (List β)) (f a) (fun b r _=>lbind f (a::b::r)) t) l) o
theorem obindF_eq {α β:Type} (o:Option (List α)) (f:α→Option (List β)):obindF o f=obind o f:=by
 cases o with
 |none=>rfl
 |some l=>cases l with
  |nil=>rfl
  |cons a t=>cases t with
   |nil=>
    show f a=lbind f [a]
    unfold lbind
    cases f a<;>rfl
   |cons b r=>rfl
def wantedF (ops:Array Oper) (tm:TV) (o:Oper):Option Bool:=
 Option.rec (motive:=fun _=>Option Bool) (some true) (fun p=>match ((ops[p.1]?).bind (·.dst)).bind tm.get with
  |some (.bool b)=>some (b==p.2)
  |some (.complex _ _ _)=>none
  |some _=>some false
  |none=>none) o.guard
theorem wantedF_eq (ops:Array Oper) (tm:TV) (o:Oper):wantedF ops tm o=wantedA ops tm o:=by
 unfold wantedF wantedA
 cases o.guard<;>rfl
def runOpF (P:Program) (G:Nat) (ih:Task→Option (List Out)) (rd:Option Nat) (o:Oper) (st:St):Option (List St):=
 Option.rec (motive:=fun _=>Option (List St)) none (fun l=>some (l.map (putV st o.dst))) (runOpVF P G ih rd o.op st.tm st.df st.h)
theorem runOpF_eq (ih:Task→Option (List Out)) (rd:Option Nat) (o:Oper) (st:St):runOpF P G ih rd o st=runOp P G ih rd o st:=by
 unfold runOpF runOp
 rw [runOpVF_eq]
 cases runOpV P G ih rd o.op st.tm st.df st.h<;>rfl
abbrev RO:=Program→Nat→(Task→Option (List Out))→Option Nat→Array Oper→St→Option (List St)
def runOpsF (l:List Oper):RO:=
 List.rec (motive:=fun _=>RO) (fun _ _ _ _ _ st=>some [st])
  (fun o _ rest P G ih rd ops st=>Option.rec (motive:=fun _=>Option (List St)) none
    (fun b=>Bool.rec (motive:=fun _=>Option (List St)) (rest P G ih rd ops (putV st o.dst ⟨undef,st.df,st.h⟩)) (obindF (runOpF P G ih rd o st) (rest P G ih rd ops)) b) (wantedF ops st.tm o)) l
theorem runOpsF_eq (ih:Task→Option (List Out)) (rd:Option Nat) (ops:Array Oper):∀ (l:List Oper) (st:St),runOpsF l P G ih rd ops st=runOps P G ih rd ops l st
 |[],st=>rfl
 |o::rest,st=>by
  show Option.rec (motive:=fun _=>Option (List St)) none
   (fun b=>Bool.rec (motive:=fun _=>Option (List St)) (runOpsF rest P G ih rd ops (putV st o.dst ⟨undef,st.df,st.h⟩)) (obindF (runOpF P G ih rd o st) (runOpsF rest P G ih rd ops)) b) (wantedF ops st.tm o)=_
  have e:runOpsF rest P G ih rd ops=runOps P G ih rd ops rest:=funext (runOpsF_eq ih rd ops rest)
  rw [wantedF_eq,obindF_eq,runOpF_eq,e]
  show _=(match wantedA ops st.tm o with
   |none=>none
   |some false=>runOps P G ih rd ops rest (putV st o.dst ⟨undef,st.df,st.h⟩)
   |some true=>obind (runOp P G ih rd o st) (runOps P G ih rd ops rest))
  cases wantedA ops st.tm o with
  |none=>rfl
  |some b=>cases b<;>rfl
def regionF (P:Program) (G:Nat) (ih:Task→Option (List Out)) (rd:Option Nat) (st:St) (ops:Array Oper) (draw:Bool):Option (List Out):=
 Bool.rec (motive:=fun _=>Option (List Out)) (obindF (runOpsF ops.toList P G ih rd ops st) normals) (match runDrawA P G ih rd ops st with|some s=>some [.code .normal s]|none=>none) draw
theorem regionF_eq (ih:Task→Option (List Out)) (rd:Option Nat) (st:St) (ops:Array Oper) (draw:Bool):regionF P G ih rd st ops draw=regionStep P G ih rd st ops draw:=by
 unfold regionF regionStep
 rw [obindF_eq,runOpsF_eq]
 cases draw<;>rfl
def condF (G:Nat) (ih:Task→Option (List Out)) (rd:Option Nat) (st:St) (c:Operand) (a b:Code):Option (List Out):=condStep G ih rd st c a b
def seqF (ih:Task→Option (List Out)) (b:Code) (rd:Option Nat) (o:Out):Option (List Out):=seqStep ih b rd o
abbrev CF:=Program→Nat→(Task→Option (List Out))→Option Nat→St→Option (List Out)
def codeF (c:Code):CF:=
 Code.rec (motive:=fun _=>CF)
  (skip:=fun _ _ _ _ st=>some [.code .normal st]) (region:=fun _ ops draw P G ih rd st=>regionF P G ih rd st ops draw) (seq:=fun a b _ _ _ _ ih rd st=>obindF (ih (.code a rd st)) (seqStep ih b rd))
  (cond:=fun c a b _ _ _ G ih rd st=>condStep G ih rd st c a b) (block:=fun id body _ _ _ ih rd st=>obindF (ih (.code body rd st)) (blockStep id)) (loop:=fun body _ _ _ ih rd st=>obindF (ih (.code body rd st)) (seqStep ih (.loop body) rd))
  (rangeFunc:=fun f params assign body _ _ P G ih rd st=>rangeStep P G ih rd st f params assign body) (exit:=fun id _ _ _ _ st=>some [.code (.exit id) st]) (scope:=fun body _ _ _ ih rd st=>ih (.code body rd st))
  (label:=fun _ _ _ _ _ st=>some [.code .normal st]) (goto:=fun _ _ _ _ _ _=>none) (ret:=fun _ _ _ _ st=>some [.code .ret st]) (refuse:=fun _ _ _ _ _ _=>none) c
theorem codeF_eq (ih:Task→Option (List Out)) (rd:Option Nat) (st:St) (c:Code):codeF c P G ih rd st=codeStep P G ih rd st c:=by
 cases c with
 |region id ops draw=>exact regionF_eq _ _ _ _ _
 |seq a b=>exact obindF_eq _ _
 |block id b=>exact obindF_eq _ _
 |loop b=>exact obindF_eq _ _
 |_=>rfl
def evF (n:Nat):Program→Nat→Task→Option (List Out):=
 Nat.rec (motive:=fun _=>Program→Nat→Task→Option (List Out)) (fun _ _ _=>none)
  (fun _ ih P G t=>Task.rec (motive:=fun _=>Program→Nat→(Task→Option (List Out))→Option (List Out)) (code:=fun c rd st P G ih=>codeF c P G ih rd st) (call:=fun f args h P G ih=>callStep P G ih f args h) t P G (ih P G)) n
theorem evF_eq:∀ (n:Nat) (t:Task),evF n P G t=ev P G n t
 |0,t=>rfl
 |n+1,t=>by
  have e:evF n P G=ev P G n:=funext (evF_eq n)
  cases t with
  |code c rd st=>
   show codeF c P G (evF n P G) rd st=codeStep P G (ev P G n) rd st c
   rw [e];exact codeF_eq _ _ _ _
  |call f args h=>
   show callStep P G (evF n P G) f args h=callStep P G (ev P G n) f args h
   rw [e]
def evIsF (P:Program) (G n:Nat) (f:FuncId) (hp:TH) (v:Value):Bool:=
 Option.rec (motive:=fun _=>Bool) false (fun outs=>outs.all (outIs v)&&af 8 v) (evF n P G (.call f [] {hp:=hp,nx:=G,mw:=far}))
theorem evIsF_eq (n:Nat) (f:FuncId) (hp:TH) (v:Value):evIsF P G n f hp v=evIs P G n f hp v:=by
 unfold evIsF evIs
 rw [evF_eq]
 cases ev P G n (.call f [] {hp:=hp,nx:=G,mw:=far})<;>rfl
end Go.CE
namespace Go.CE
open Go Go.RowKit
variable {P:Program} {G:Nat}
abbrev DV:=Program→Nat→(Task→Option (List Out))→Option Nat→Nat→Array Oper→Array Nat→Nat→Nat→Oper→Dr→Option Dr
def drEff (n nx0 sz i:Nat) (B:Nat) (o:Oper) (h0:H) (d:Dr) (r:Option (List V3)):Option Dr:=
 Bool.rec (motive:=fun _=>Option Dr) none (drActs n nx0 sz i o h0 d r) (d.es.all (fun e=>Nat.testBit B e))
def drActV (P:Program) (G:Nat) (ih:Task→Option (List Out)) (rd:Option Nat) (sz:Nat) (ops:Array Oper) (Bs:Array Nat) (nx0:Nat) (i:Nat) (o:Oper) (d:Dr):Option Dr:=
 drEff ops.size nx0 sz i (Bs.getD i 0) o (withA (Bs.getD i 0) d.h d.as) d (runOpVF P G ih rd o.op d.tm d.df (withA (Bs.getD i 0) d.h d.as))
def drCls (c:Cls):DV:=
 Cls.rec (motive:=fun _=>DV)
  (reads:=fun P G _ _ sz _ Bs _ i o d=>Option.rec (motive:=fun _=>Option Dr) none (fun v=>some {tm:=tput sz d.tm o.dst v,df:=d.df,h:=d.h,as:=d.as,es:=d.es,rs:=⟨i,o,d.tm,.reads,v⟩::d.rs}) (aopNF o.op P G d.tm (withA (Bs.getD i 0) d.h d.as)))
  (makes:=fun P G _ _ sz _ _ nx0 i o d=>Option.rec (motive:=fun _=>Option Dr) none
    (fun p=>some {tm:=tput sz d.tm o.dst p.1,df:=d.df,h:=d.h,as:=(i,nx0+i,p.2)::d.as,es:=d.es,rs:=⟨i,o,d.tm,.makes (nx0+i) p.2,p.1⟩::d.rs}) (aopAF o.op P G d.tm (nx0+i)))
  (acts:=drActV) (next:=drActV) c
def drStepF (P:Program) (G:Nat) (ih:Task→Option (List Out)) (rd:Option Nat) (sz:Nat) (ops:Array Oper) (Bs:Array Nat) (nx0:Nat) (i:Nat) (o:Oper) (d:Dr):Option Dr:=
 Bool.rec (motive:=fun _=>Option Dr) none
  (Option.rec (motive:=fun _=>Option Dr) none
    (fun w=>Bool.rec (motive:=fun _=>Option Dr) (some {tm:=tput sz d.tm o.dst undef,df:=d.df,h:=d.h,as:=d.as,es:=d.es,rs:=⟨i,o,d.tm,.skip,undef⟩::d.rs})
      (drCls (clsT P o.op) P G ih rd sz ops Bs nx0 i o d) w) (wantedF ops d.tm o)) (guardOk (Bs.getD i 0) o)
theorem drStepF_eq (ih:Task→Option (List Out)) (rd:Option Nat) (sz:Nat) (ops:Array Oper) (Bs:Array Nat) (nx0:Nat) (i:Nat) (o:Oper) (d:Dr):drStepF P G ih rd sz ops Bs nx0 i o d=drStep P G ih rd sz ops Bs nx0 i o d:=by
 unfold drStepF drStep
 rw [clsT_eq]
 cases guardOk (Bs.getD i 0) o with
 |false=>rfl
 |true=>
  rw [wantedF_eq]
  show Option.rec (motive:=fun _=>Option Dr) none
   (fun w=>Bool.rec (motive:=fun _=>Option Dr) (some {tm:=tput sz d.tm o.dst undef,df:=d.df,h:=d.h,as:=d.as,es:=d.es,rs:=⟨i,o,d.tm,.skip,undef⟩::d.rs})
     (drCls (cls P o.op) P G ih rd sz ops Bs nx0 i o d) w) (wantedA ops d.tm o)=_
  cases wantedA ops d.tm o with
  |none=>rfl
  |some w=>
   cases w with
   |false=>rfl
   |true=>
    show drCls (cls P o.op) P G ih rd sz ops Bs nx0 i o d=_
    have act:drActV P G ih rd sz ops Bs nx0 i o d=bif d.es.all (fun e=>Nat.testBit (Bs.getD i 0) e) then drActs ops.size nx0 sz i o (withA (Bs.getD i 0) d.h d.as) d (runOpV P G ih rd o.op d.tm d.df (withA (Bs.getD i 0) d.h d.as)) else none:=by
     unfold drActV drEff
     rw [runOpVF_eq]
     cases d.es.all (fun e=>Nat.testBit (Bs.getD i 0) e)<;>rfl
    simp only [cond_true]
    cases cls P o.op with
    |reads=>
     show Option.rec (motive:=fun _=>Option Dr) none (fun v=>some {tm:=tput sz d.tm o.dst v,df:=d.df,h:=d.h,as:=d.as,es:=d.es,rs:=⟨i,o,d.tm,.reads,v⟩::d.rs}) (aopNF o.op P G d.tm (withA (Bs.getD i 0) d.h d.as))=_
     rw [aopNF_eq]
     cases aopN P G d.tm (withA (Bs.getD i 0) d.h d.as) o.op<;>rfl
    |makes=>
     show Option.rec (motive:=fun _=>Option Dr) none
      (fun p=>some {tm:=tput sz d.tm o.dst p.1,df:=d.df,h:=d.h,as:=(i,nx0+i,p.2)::d.as,es:=d.es,rs:=⟨i,o,d.tm,.makes (nx0+i) p.2,p.1⟩::d.rs}) (aopAF o.op P G d.tm (nx0+i))=_
     rw [aopAF_eq]
     cases aopA P G d.tm (nx0+i) o.op<;>rfl
    |acts=>exact act
    |next=>exact act
abbrev DO:=Program→Nat→(Task→Option (List Out))→Option Nat→Nat→Array Oper→Array Nat→Nat→Nat→Dr→Option Dr
def drOpsF (l:List Oper):DO:=
 List.rec (motive:=fun _=>DO) (fun _ _ _ _ _ _ _ _ _ d=>some d)
  (fun o _ rest P G ih rd sz ops Bs nx0 i d=>Option.rec (motive:=fun _=>Option Dr) none (fun d'=>rest P G ih rd sz ops Bs nx0 (i+1) d') (drStepF P G ih rd sz ops Bs nx0 i o d)) l
theorem drOpsF_eq (ih:Task→Option (List Out)) (rd:Option Nat) (sz:Nat) (ops:Array Oper) (Bs:Array Nat) (nx0:Nat):∀ (l:List Oper) (i:Nat) (d:Dr),drOpsF l P G ih rd sz ops Bs nx0 i d=drOps P G ih rd sz ops Bs nx0 l i d
 |[],_,_=>rfl
 |o::rest,i,d=>by
  show Option.rec (motive:=fun _=>Option Dr) none (fun d'=>drOpsF rest P G ih rd sz ops Bs nx0 (i+1) d') (drStepF P G ih rd sz ops Bs nx0 i o d)=_
  rw [drStepF_eq]
  show _=(match drStep P G ih rd sz ops Bs nx0 i o d with|some d'=>drOps P G ih rd sz ops Bs nx0 rest (i+1) d'|none=>none)
  cases drStep P G ih rd sz ops Bs nx0 i o d with
  |none=>rfl
  |some d'=>exact drOpsF_eq ih rd sz ops Bs nx0 rest (i+1) d'
def stageF (P:Program) (G:Nat) (B:Nat) (h:H) (as:List (Nat×Nat×AObj)) (r:Rec) (rest:List Stage):Bool:=
 rest.any (fun e=>Nat.testBit B e.i)||allEq r.v (aopNF r.o.op P G r.tm (withA B h as))
theorem stageF_eq (B:Nat) (h:H) (as:List (Nat×Nat×AObj)) (r:Rec) (rest:List Stage):stageF P G B h as r rest=stageOk P G B h as r rest:=by
 unfold stageF stageOk;rw [aopNF_eq]
def walkF (P:Program) (G:Nat) (Bs:Array Nat) (B:Nat) (as:List (Nat×Nat×AObj)) (r:Rec) (st:List Stage):H→Bool:=
 List.rec (motive:=fun _=>H→Bool) (fun h=>stageF P G B h as r []) (fun e rest ih h=>stageF P G B h as r (e::rest)&&(Nat.testBit (Bs.getD e.i 0) r.i||ih e.h)) st
theorem walkF_eq (Bs:Array Nat) (B:Nat) (as:List (Nat×Nat×AObj)) (r:Rec):∀ (st:List Stage) (h:H),walkF P G Bs B as r st h=walkOk P G Bs B as r st h
 |[],h=>stageF_eq _ _ _ _ _
 |e::rest,h=>by
  show (stageF P G B h as r (e::rest)&&(Nat.testBit (Bs.getD e.i 0) r.i||walkF P G Bs B as r rest e.h))=_
  rw [stageF_eq,walkF_eq Bs B as r rest];rfl
def recF (P:Program) (G:Nat) (Bs:Array Nat) (as:List (Nat×Nat×AObj)) (st:List Stage) (h0:H) (r:Rec):Bool:=
 RK.rec (motive:=fun _=>Bool) true (Bool.rec (motive:=fun _=>Bool) (walkF P G Bs (Bs.getD r.i 0) as r st h0) true (noHeap r.o.op)) (fun _ _=>true) (fun _ _=>true) r.k
def recsF (P:Program) (G:Nat) (Bs:Array Nat) (as:List (Nat×Nat×AObj)) (st:List Stage) (h0:H) (rs:List Rec):Bool:=
 List.rec (motive:=fun _=>Bool) true (fun r _ ih=>recF P G Bs as st h0 r&&ih) rs
theorem recsF_eq (Bs:Array Nat) (as:List (Nat×Nat×AObj)) (st:List Stage) (h0:H):∀ (rs:List Rec),recsF P G Bs as st h0 rs=recsOk P G Bs as st h0 rs
 |[]=>rfl
 |r::rs=>by
  show (recF P G Bs as st h0 r&&recsF P G Bs as st h0 rs)=_
  rw [recsF_eq Bs as st h0 rs]
  unfold recF
  obtain ⟨i,o,tm,k,v⟩:=r
  cases k with
  |reads=>
   show (Bool.rec (motive:=fun _=>Bool) (walkF P G Bs (Bs.getD i 0) as ⟨i,o,tm,.reads,v⟩ st h0) true (noHeap o.op)&&_)=((noHeap o.op||walkOk P G Bs (Bs.getD i 0) as ⟨i,o,tm,.reads,v⟩ st h0)&&recsOk P G Bs as st h0 rs)
   rw [walkF_eq]
   cases noHeap o.op<;>rfl
  |_=>rfl
def drawF (P:Program) (G:Nat) (ih:Task→Option (List Out)) (rd:Option Nat) (ops:Array Oper) (Bs:Array Nat) (ok:Bool) (st:St):Option St:=
 Bool.rec (motive:=fun _=>Option St) none
  (Option.rec (motive:=fun _=>Option St) none
    (fun d=>Bool.rec (motive:=fun _=>Option St) none (some {tm:=d.tm,sz:=st.sz,df:=d.df,h:=withA (2^ops.size-1) d.h d.as})
      (recsF P G Bs d.as (stagesOf d.rs []) {hp:=st.h.hp,nx:=st.h.nx+ops.size,mw:=st.h.mw} d.rs))
    (drOpsF ops.toList P G ih rd st.sz ops Bs st.h.nx 0 {tm:=st.tm,df:=st.df,h:={hp:=st.h.hp,nx:=st.h.nx+ops.size,mw:=st.h.mw},as:=[],es:=[],rs:=[]})) ok
theorem drawF_eq (ih:Task→Option (List Out)) (rd:Option Nat) (ops:Array Oper) (st:St):
 drawF P G ih rd ops (Region.before ops) (edgesOk ops.toList 0&&namesOk ops (Region.before ops) ops.toList 0) st=runDraw P G ih rd ops st:=by
 unfold drawF runDraw
 simp only
 cases (edgesOk ops.toList 0&&namesOk ops (Region.before ops) ops.toList 0) with
 |false=>rfl
 |true=>
  rw [drOpsF_eq]
  simp only [cond_true]
  cases drOps P G ih rd st.sz ops (Region.before ops) st.h.nx ops.toList 0 {tm:=st.tm,df:=st.df,h:={hp:=st.h.hp,nx:=st.h.nx+ops.size,mw:=st.h.mw},as:=[],es:=[],rs:=[]} with
  |none=>rfl
  |some d=>
   simp only [recsF_eq]
   cases recsOk P G (Region.before ops) d.as (stagesOf d.rs []) {hp:=st.h.hp,nx:=st.h.nx+ops.size,mw:=st.h.mw} d.rs<;>rfl
def drawAF (P:Program) (G:Nat) (ih:Task→Option (List Out)) (rd:Option Nat) (ops:Array Oper) (st:St):Option St:=
 Option.rec (motive:=fun _=>Option St) (runDrawS P G ih rd ops st) (fun s=>some s) (drawF P G ih rd ops (Region.before ops) (edgesOk ops.toList 0&&namesOk ops (Region.before ops) ops.toList 0) st)
theorem drawAF_eq (ih:Task→Option (List Out)) (rd:Option Nat) (ops:Array Oper) (st:St):drawAF P G ih rd ops st=runDrawA P G ih rd ops st:=by
 unfold drawAF runDrawA
 rw [drawF_eq]
 cases runDraw P G ih rd ops st<;>rfl
def regionG (P:Program) (G:Nat) (ih:Task→Option (List Out)) (rd:Option Nat) (st:St) (ops:Array Oper) (draw:Bool):Option (List Out):=
 Bool.rec (motive:=fun _=>Option (List Out)) (obindF (runOpsF ops.toList P G ih rd ops st) normals)
  (Option.rec (motive:=fun _=>Option (List Out)) none (fun s=>some [.code .normal s]) (drawAF P G ih rd ops st)) draw
theorem regionG_eq (ih:Task→Option (List Out)) (rd:Option Nat) (st:St) (ops:Array Oper) (draw:Bool):regionG P G ih rd st ops draw=regionStep P G ih rd st ops draw:=by
 unfold regionG regionStep
 rw [obindF_eq,runOpsF_eq,drawAF_eq]
 cases draw with
 |false=>rfl
 |true=>show Option.rec (motive:=fun _=>Option (List Out)) none (fun s=>some [.code .normal s]) (runDrawA P G ih rd ops st)=_
        rw [cond_true]
        cases runDrawA P G ih rd ops st<;>rfl
def codeG (c:Code):CF:=
 Code.rec (motive:=fun _=>CF)
  (skip:=fun _ _ _ _ st=>some [.code .normal st]) (region:=fun _ ops draw P G ih rd st=>regionG P G ih rd st ops draw) (seq:=fun a b _ _ _ _ ih rd st=>obindF (ih (.code a rd st)) (seqStep ih b rd))
  (cond:=fun c a b _ _ _ G ih rd st=>condStep G ih rd st c a b) (block:=fun id body _ _ _ ih rd st=>obindF (ih (.code body rd st)) (blockStep id)) (loop:=fun body _ _ _ ih rd st=>obindF (ih (.code body rd st)) (seqStep ih (.loop body) rd))
  (rangeFunc:=fun f params assign body _ _ P G ih rd st=>rangeStep P G ih rd st f params assign body) (exit:=fun id _ _ _ _ st=>some [.code (.exit id) st]) (scope:=fun body _ _ _ ih rd st=>ih (.code body rd st))
  (label:=fun _ _ _ _ _ st=>some [.code .normal st]) (goto:=fun _ _ _ _ _ _=>none) (ret:=fun _ _ _ _ st=>some [.code .ret st]) (refuse:=fun _ _ _ _ _ _=>none) c
theorem codeG_eq (ih:Task→Option (List Out)) (rd:Option Nat) (st:St) (c:Code):codeG c P G ih rd st=codeStep P G ih rd st c:=by
 cases c with
 |region id ops draw=>exact regionG_eq _ _ _ _ _
 |seq a b=>exact obindF_eq _ _
 |block id b=>exact obindF_eq _ _
 |loop b=>exact obindF_eq _ _
 |_=>rfl
def evG (n:Nat):Program→Nat→Task→Option (List Out):=
 Nat.rec (motive:=fun _=>Program→Nat→Task→Option (List Out)) (fun _ _ _=>none)
  (fun _ ih P G t=>Task.rec (motive:=fun _=>Program→Nat→(Task→Option (List Out))→Option (List Out)) (code:=fun c rd st P G ih=>codeG c P G ih rd st) (call:=fun f args h P G ih=>callStep P G ih f args h) t P G (ih P G)) n
theorem evG_eq:∀ (n:Nat) (t:Task),evG n P G t=ev P G n t
 |0,t=>rfl
 |n+1,t=>by
  have e:evG n P G=ev P G n:=funext (evG_eq n)
  cases t with
  |code c rd st=>
   show codeG c P G (evG n P G) rd st=codeStep P G (ev P G n) rd st c
   rw [e];exact codeG_eq _ _ _ _
  |call f args h=>
   show callStep P G (evG n P G) f args h=callStep P G (ev P G n) f args h
   rw [e]
def evIsG (P:Program) (G n:Nat) (f:FuncId) (hp:TH) (v:Value):Bool:=
 Option.rec (motive:=fun _=>Bool) false (fun outs=>outs.all (outIs v)&&af 8 v) (evG n P G (.call f [] {hp:=hp,nx:=G,mw:=far}))
theorem evIsG_eq (n:Nat) (f:FuncId) (hp:TH) (v:Value):evIsG P G n f hp v=evIs P G n f hp v:=by
 unfold evIsG evIs
 rw [evG_eq]
 cases ev P G n (.call f [] {hp:=hp,nx:=G,mw:=far})<;>rfl
end Go.CE
