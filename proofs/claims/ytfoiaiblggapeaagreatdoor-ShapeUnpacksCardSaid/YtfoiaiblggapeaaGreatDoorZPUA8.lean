/-
  The texts CeG of this claim, one behind the other.
-/
import Derived.Test.YtfoiaiblggapeaaGreatDoorZPUA7
import Derived.Lib.LaidTab
import Derived.Lib.LaidU8
import Derived.JoinedOf
import Derived.SevenTiedAt
noncomputable section
namespace Go.CE
open Go Go.RowKit
theorem Quiet.below {w w':World} (q:Quiet w w'):Below w.heap.size w w':=⟨q.os,q.tape,q.output,q.size,q.block⟩
theorem laid_block {P:Program} {W:World} {laid:List (String×DataW Unit)} (h:laidMet P laid W) {name:String} {k:IntKind} {zs:List Int} (hm:(name,Lib.tabData k zs)∈laid) (hz:0<zs.length)
 {g t e n:Nat} (hg:P.globalNamed name=some g) (hty:(P.globals[g]?).map (·.type)=some t) (ht:P.underlying t=some (.array n e)) (he:P.underlying e=some (.int k)) (hce:P.cellsOf e=1) (hct:P.cellsOf t=n):
 ∃ t',W.heap[g]? =some (.cells (zs.map fun z=>Value.int k z).toArray t' (0,0)):=by
 obtain ⟨ps,hv,_,hrow⟩:=h
 have key:∀ (l:List (String×DataW Unit)) (ps:List MemPlace),DataW.LaidVars P W l ps→∀ n d,(n,d)∈l→
  ∃ g t cs fuel p,P.globalNamed n=some g∧(P.globals[g]?).map (·.type)=some t∧W.var? P n=some cs∧DataW.trod (fun _=>()) P W 0 (fun _=>true) false fuel t cs.toList=some (d,p)∧∀ x∈MemPlace.row ⟨g,0,none⟩ cs.size,x∈ps:=by
  intro l
  induction l with
  |nil=>intro ps _ n d hm;cases hm
  |cons y l ih=>
   intro ps hl n d hm
   obtain ⟨g',t',cs,fuel,p,q,a1,a2,a3,a4,a5,rfl⟩:=hl
   cases hm with
   |head=>exact ⟨g',t',cs,fuel,p,a1,a2,a3,a4,fun x hx=>List.mem_append_left _ (List.mem_append_left _ hx)⟩
   |tail _ hm=>
    obtain ⟨g2,t2,cs2,f2,p2,b1,b2,b3,b4,b5⟩:=ih q a5 n d hm
    exact ⟨g2,t2,cs2,f2,p2,b1,b2,b3,b4,fun x hx=>List.mem_append_right _ (b5 x hx)⟩
 obtain ⟨g',t',cs,fuel,p,a1,a2,a3,a4,a5⟩:=key laid ps hv name _ hm
 obtain rfl:=Option.some.inj (hg.symm.trans a1)
 obtain rfl:=Option.some.inj (hty.symm.trans a2)
 have hcs:=Lib.cells_of_tab ht he hce hct a4
 have hsize:0<cs.size:=by
  have:cs.toList.length=zs.length:=by rw [hcs];simp
  simp at this;omega
 obtain ⟨⟨c,t'',hh⟩,_⟩:=hrow g 0 (a5 _ (by unfold MemPlace.row;exact List.mem_map.2 ⟨0,List.mem_range.2 hsize,rfl⟩))
 have hvar:W.var? P name=some c:=by
  unfold World.var?
  rw [hg,Option.bind_some,hh]
 rw [a3] at hvar
 cases hvar
 refine ⟨t'',?_⟩
 rw [hh,←hcs]
def tabHeap (g:Nat) (k:IntKind) (zs:List Int):TH:=TH.e.set g (some (.cells (zs.map fun z=>Value.int k z)))
theorem lies_tab {W:World} {g G t:Nat} {k:IntKind} {zs:List Int} (hg:g<G) (h:W.heap[g]? =some (.cells (zs.map fun z=>Value.int k z).toArray t (0,0))):Lies (tabHeap g k zs) G W:=by
 have hget:∀ i,(tabHeap g k zs).get i=if i=g then some (.cells (zs.map fun z=>Value.int k z)) else none:=fun i=>by
  unfold tabHeap
  rw [TH.get_set,TH.get_e]
 refine ⟨fun i hi=>by rw [hget,if_neg (by omega)],fun i o hi=>?_⟩
 rw [hget] at hi
 by_cases e:i=g
 ·subst e
  rw [if_pos rfl] at hi
  cases hi
  refine ⟨_,_,_,_,rfl,h,by simp,.inl rfl,fun j x hx=>⟨?_,by simpa using hx⟩⟩
  obtain ⟨z,_,rfl⟩:=List.mem_map.1 (List.mem_of_getElem? hx)
  rfl
 ·rw [if_neg e] at hi;cases hi
theorem lies_none (G:Nat) (W:World):Lies TH.e G W:=⟨fun i _=>TH.get_e i,fun i o h=>by rw [TH.get_e] at h;cases h⟩
theorem noCount_of {P:Program} (h:P.funcs.all (fun fn=> !(fn.body.isSome&&fn.name== "runtime.NumGoroutine"))=true):NoCount P:=by
 intro g fn hg hb
 have:=Array.all_eq_true_iff_forall_mem.1 h fn (Array.mem_of_getElem? hg)
 rw [hb] at this
 simpa using this
theorem calls_entry [Letters] {P:Program} {G f:Nat} {xs:List Value} {gs:List (Nat×List Value)} {v:Value} (he:MemoOk P G {f:=f,args:=xs,glob:=gs,val:=v}) {W:World} (hl:Lies (baseH gs) G W):
 Calls P f xs.toArray W fun e W'=>e= .returned v∧Below W.heap.size W W':=
 (calls_memo he hl).mono fun _ _ ⟨h1,h2⟩=>⟨h1,h2.below⟩
theorem memo_none [Letters] (P:Program) (G:Nat):∀ e∈([]:List MemoE),MemoOk P G e:=fun _ h=>by cases h
variable {P:Program}
def leadsK (P:Program) (g:FuncId):List FuncId:=Option.rec (motive:=fun _=>List FuncId) [] (fun fn=>P.leadsTo fn) (fnF P g)
def closureK (leads:FuncId→List FuncId) (fuel:Nat):List FuncId→Nat→List FuncId→List FuncId:=
 Nat.rec (motive:=fun _=>List FuncId→Nat→List FuncId→List FuncId) (fun _ _ seen=>seen.reverse)
  (fun _ ih todo m seen=>List.rec (motive:=fun _=>List FuncId) seen.reverse
    (fun f t _=>Bool.rec (motive:=fun _=>List FuncId) (ih (leads f++t) (Nat.lor m (Nat.pow 2 f)) (f::seen)) (ih t m seen) (bitF m f)) todo) fuel
def contT (l:List FuncId) (s:List (List FuncId)) (k:List (List FuncId)→List FuncId):List FuncId:=
 List.rec (motive:=fun _=>List FuncId) (k s) (fun a t _=>k ((a::t)::s)) l
def closureS (leads:FuncId→List FuncId) (fuel:Nat):List (List FuncId)→Nat→List FuncId→List FuncId:=
 Nat.rec (motive:=fun _=>List (List FuncId)→Nat→List FuncId→List FuncId) (fun _ _ seen=>seen.reverse)
  (fun _ ih st m seen=>List.rec (motive:=fun _=>List FuncId) seen.reverse
    (fun l s _=>List.rec (motive:=fun _=>List FuncId) []
      (fun f t _=>Bool.rec (motive:=fun _=>List FuncId) (contT t s fun s1=>contT (leads f) s1 fun s2=>ih s2 (Nat.lor m (Nat.pow 2 f)) (f::seen)) (contT t s fun s1=>ih s1 m seen) (bitF m f)) l) st) fuel
def closK (P:Program) (f:FuncId):List FuncId:=closureS (leadsK P) (1+(P.funcs.toList.map fun g=>(P.leadsTo g).length+1).sum) [[f]] 0 []
def inPlaceK (P:Program) (f:FuncId):List String:=
 (closK P f).filterMap fun g=>(fnF P g).bind fun fn=>if fn.ours||fn.body.isNone||fn.name== "runtime.NumGoroutine" then some fn.name else none
def unfollowedK (P:Program) (f:FuncId):Bool:=
 (closK P f).any fun g=>(fnF P g).any fun fn=>match fn.body with|some c=>c.unfollowed|none=>entryCalls fn
def varsNamedK (P:Program) (f:FuncId):List String:=
 ((((closK P f).flatMap fun g=>((fnF P g).bind (·.body)).elim [] Code.globalsNamed).eraseDups).filterMap (fun g=>(P.globals[g]?).map (·.name))++
  (closK P f).filterMap fun g=>(fnF P g).bind fun fn=>if fn.body.isNone then entryReads.lookup fn.name else none).eraseDups
def funcNamedK (P:Program) (name:String):Option FuncId:=
 match (List.range P.funcs.size).filter fun i=>(fnF P i).any (·.name==name) with
 |[i]=>some i
 |_=>none
def cellsK (P:Program) (t:TypeId):Nat:=Option.rec (motive:=fun _=>Nat) 0 (fun i=>i.size) (infoF P t)
def isVarK (P:Program) (n:Nat) (t:TypeId):Bool:=Nat.blt t n&&kindOk (undF P t)
def rowFineK (P:Program) (n:Nat) (t:TypeId):Bool:=
 !isVarK P n t||
 match undF P t with
 |some (.struct fs)=>fs.toList.all (fun f=>isVarK P n f.type)&&cellsK P t==(fs.toList.map fun f=>cellsK P f.type).sum&&
   (List.range fs.toList.length).all fun j=>match fs.toList[j]? with|some f=>f.offset==((fs.toList.take j).map fun f=>cellsK P f.type).sum|none=>true
 |some (.array n2 e)=>isVarK P n e&&cellsK P t==n2*cellsK P e
 |some (.pointer e)=>isVarK P n e&&cellsK P t==1
 |some (.slice e)=>isVarK P n e&&cellsK P t==1
 |_=>cellsK P t==1
def laidOutK (P:Program):Bool:=
 (List.range P.types.size).all (rowFineK P P.types.size)&&
 P.globals.toList.all (fun g=>Nat.blt g.type P.types.size)&&
 P.funcs.toList.all (fun f=>f.params.toList.all fun t=>Nat.blt t P.types.size)
def mapsRowedK (P:Program):Bool:=
 (List.range P.types.size).all fun t=>match undF P t with|some (.map _ e)=>decide (e<P.types.size)|_=>true
def plainKeysK (P:Program):Bool:=
 (List.range P.types.size).all fun t=>match undF P t with
   |some (.map k _)=>(match undF P k with|some (.array _ _)|some (.struct _)=>false|_=>true)
   |_=>true
def stopsHeardK (P:Program):Bool:=P.funcs.toList.all fun fn=>(Stop.rowOf fn).isNone|| !fn.norace
def laysLaterK (P:Program):Bool:=
 P.funcs.toList.any fun fn=>fn.body.isNone&&(fn.name== "runtime.SetFinalizer" ||fn.name== "runtime.AddCleanup" ||fn.origin== "runtime.AddCleanup")
def mayEnterK (P:Program):Bool:=
 match behindMainWord (wordsSigns P.initOrder.toList) with
 |c::rest=>
  ((c== "gc".toList||c== "spec".toList)&&(rest.isEmpty||rest.head?==some "stop".toList))||
  (c== "carried".toList&&rest.take 2==["gc".toList, "cut".toList]&& !laysLaterK P&& !P.bearsReflect)||
  ((stripLifts liftWords (c::rest)).2.head?==some "cut".toList&&
    ((stripLifts liftWords (c::rest)).1.contains "finals" || !laysLaterK P)&&((stripLifts liftWords (c::rest)).1.contains "reflectrows" || !P.bearsReflect)&&
    ((stripLifts liftWords (c::rest)).1.contains "reflectrows" || !(stripLifts liftWords (c::rest)).1.contains "leanrows")&&
    P.doorFits (stripLifts liftWords (c::rest)).1)
 |[]=>false
end Go.CE
