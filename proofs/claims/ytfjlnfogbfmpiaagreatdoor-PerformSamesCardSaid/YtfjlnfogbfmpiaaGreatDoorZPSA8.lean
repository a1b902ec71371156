/-
  The texts CeG of this claim, one behind the other.
-/
import Derived.Test.YtfjlnfogbfmpiaaGreatDoorZPSA7
import Derived.Lib.LaidTab
import Derived.Lib.LaidU8
import Derived.JoinedOf
import Derived.SevenTiedAt
noncomputable section
namespace Go.CE
open Go Go.RowKit
theorem Quiet.below {w w':World} (q:Quiet w w'):Below w.heap.size w w':=⟨q.os,q.tape,q.output,q.size,q.block⟩
theorem laid_block {P:Program} {W:World} {laid:List (String×DataW Unit)} (h:laidMet P laid W) {name:String} {k:IntKind} {zs:List Int} (hm:(name,Lib.tabData k zs)∈laid) (hz:0<zs.length)
 {g t e n:Nat} (hg:P.globalNamed name=some g) (hty:(P.globals[g]?).map (·.type)=some t) (ht:P.underlying t=some (.array n e)) (he:P.underlying e=some (.int k)) (hce:P.cellsOf e=1) (hct:P.cellsOf t=n):
 ∃ t',W.heap[g]? =some (.cells (zs.map fun z=>Value.int k z).toArray t' (0,0)):=by
 obtain ⟨ps,hv,_,hrow⟩:=h
 have key:∀ (l:List (String×DataW Unit)) (ps:List MemPlace),DataW.LaidVars P W l ps→∀ n d,(n,d)∈l→
  ∃ g t cs fuel p,P.globalNamed n=some g∧(P.globals[g]?).map (·.type)=some t∧W.var? P n=some cs∧DataW.trod (fun _=>()) P W 0 (fun _=>true) false fuel t cs.toList=some (d,p)∧∀ x∈MemPlace.row ⟨g,0,none⟩ cs.size,x∈ps:=by
  intro l
  induction l with
  |nil=>intro ps _ n d hm;cases hm
  |cons y l ih=>
   intro ps hl n d hm
   obtain ⟨g',t',cs,fuel,p,q,a1,a2,a3,a4,a5,rfl⟩:=hl
   cases hm with
   |head=>exact ⟨g',t',cs,fuel,p,a1,a2,a3,a4,fun x hx=>List.mem_append_left _ (List.mem_append_left _ hx)⟩
   |tail _ hm=>
    obtain ⟨g2,t2,cs2,f2,p2,b1,b2,b3,b4,b5⟩:=ih q a5 n d hm
    exact ⟨g2,t2,cs2,f2,p2,b1,b2,b3,b4,fun x hx=>List.mem_append_right _ (b5 x hx)⟩
 obtain ⟨g',t',cs,fuel,p,a1,a2,a3,a4,a5⟩:=key laid ps hv name _ hm
 obtain rfl:=Option.some.inj (hg.symm.trans a1)
 obtain rfl:=Option.some.inj (hty.symm.trans a2)
 have hcs:=Lib.cells_of_tab ht he hce hct a4
 have hsize:0<cs.size:=by
  have:cs.toList.length=zs.length:=by rw [hcs];simp
  simp at this;omega
 obtain ⟨⟨c,t'',hh⟩,_⟩:=hrow g 0 (a5 _ (by unfold MemPlace.row;exact List.mem_map.2 ⟨0,List.mem_range.2 hsize,rfl⟩))
 have hvar:W.var? P name=some c:=by
  unfold World.var?
  rw [hg,Option.bind_some,hh]
 rw [a3] at hvar
 cases hvar
 refine ⟨t'',?_⟩
 rw [hh,←hcs]
def tabHeap (g:Nat) (k:IntKind) (zs:List Int):TH:=TH.e.set g (some (.cells (zs.map fun z=>Value.int k z)))
theorem lies_tab {W:World} {g G t:Nat} {k:IntKind} {zs:List Int} (hg:g<G) (h:W.heap[g]? =some (.cells (zs.map fun z=>Value.int k z).toArray t (0,0))):Lies (tabHeap g k zs) G W:=by
 have hget:∀ i,(tabHeap g k zs).get i=if i=g then some (.cells (zs.map fun z=>Value.int k z)) else none:=fun i=>by
  unfold tabHeap
  rw [TH.get_set,TH.get_e]
 refine ⟨fun i hi=>by rw [hget,if_neg (by omega)],fun i o hi=>?_⟩
 rw [hget] at hi
 by_cases e:i=g
 ·subst e
  rw [if_pos rfl] at hi
  cases hi
  refine ⟨_,_,_,_,rfl,h,by simp,.inl rfl,fun j x hx=>⟨?_,by simpa using hx⟩⟩
  obtain ⟨z,_,rfl⟩:=List.mem_map.1 (List.mem_of_getElem? hx)
  rfl
 ·rw [if_neg e] at hi;cases hi
theorem lies_none (G:Nat) (W:World):Lies TH.e G W:=⟨fun i _=>TH.get_e i,fun i o h=>by rw [TH.get_e] at h;cases h⟩
theorem noCount_of {P:Program} (h:P.funcs.all (fun fn=> !(fn.body.isSome&&fn.name== "runtime.NumGoroutine"))=true):NoCount P:=by
 intro g fn hg hb
 have:=Array.all_eq_true_iff_forall_mem.1 h fn (Array.mem_of_getElem? hg)
 rw [hb] at this
 simpa using this
theorem calls_closed [Letters] {P:Program} {G n f:Nat} {hp:TH} {v:Value} (hm:P.follows .mixedOrders=true) (hN:NoCount P) (h:evIsG P G n f hp v=true) {W:World} (hl:Lies hp G W):
 Calls P f #[] W fun e w'=>e= .returned v∧Below W.heap.size W w':=
 (calls_of_ev hm hN (by rw [←evIsG_eq];exact h) hl).mono fun _ _ ⟨h1,h2⟩=>⟨h1,h2.below⟩
theorem calls_entry [Letters] {P:Program} {G f:Nat} {xs:List Value} {gs:List (Nat×List Value)} {v:Value} (he:MemoOk P G {f:=f,args:=xs,glob:=gs,val:=v}) {W:World} (hl:Lies (baseH gs) G W):
 Calls P f xs.toArray W fun e W'=>e= .returned v∧Below W.heap.size W W':=
 (calls_memo he hl).mono fun _ _ ⟨h1,h2⟩=>⟨h1,h2.below⟩
theorem memo_none [Letters] (P:Program) (G:Nat):∀ e∈([]:List MemoE),MemoOk P G e:=fun _ h=>by cases h
theorem memo_one [Letters] {P:Program} {G:Nat} {a:MemoE} (h:MemoOk P G a):∀ e∈[a],MemoOk P G e:=fun _ he=>by
 cases he with
 |head=>exact h
 |tail _ he=>cases he
variable {P:Program}
def leadsK (P:Program) (g:FuncId):List FuncId:=Option.rec (motive:=fun _=>List FuncId) [] (fun fn=>P.leadsTo fn) (fnF P g)
theorem leadsK_eq (g:FuncId):leadsK P g=(P.funcs[g]?).elim [] P.leadsTo:=by
 unfold leadsK
 rw [fnF_eq]
 cases P.funcs[g]? <;>rfl
def closureK (leads:FuncId→List FuncId) (fuel:Nat):List FuncId→Nat→List FuncId→List FuncId:=
 Nat.rec (motive:=fun _=>List FuncId→Nat→List FuncId→List FuncId) (fun _ _ seen=>seen.reverse)
  (fun _ ih todo m seen=>List.rec (motive:=fun _=>List FuncId) seen.reverse
    (fun f t _=>Bool.rec (motive:=fun _=>List FuncId) (ih (leads f++t) (Nat.lor m (Nat.pow 2 f)) (f::seen)) (ih t m seen) (bitF m f)) todo) fuel
theorem closureK_eq:∀ (fuel:Nat) (todo:List FuncId) (m:Nat) (seen:List FuncId),(∀ g,Nat.testBit m g=seen.contains g)→closureK (leadsK P) fuel todo m seen=P.closureVia fuel todo seen
 |0,todo,m,seen,_=>by unfold Program.closureVia;rfl
 |n+1,[],m,seen,_=>by unfold Program.closureVia;rfl
 |n+1,f::todo,m,seen,h=>by
  have e:closureK (leadsK P) (n+1) (f::todo) m seen=Bool.rec (motive:=fun _=>List FuncId) (closureK (leadsK P) n (leadsK P f++todo) (m|||2^f) (f::seen)) (closureK (leadsK P) n todo m seen) (bitF m f):=rfl
  rw [e,bitF_eq,h]
  unfold Program.closureVia
  cases hc:seen.contains f with
  |true=>
   rw [if_pos rfl]
   exact closureK_eq n todo m seen h
  |false=>
   rw [if_neg (by simp),←leadsK_eq]
   refine closureK_eq n _ _ _ (fun g=>?_)
   rw [Nat.testBit_or,Nat.testBit_two_pow,h,List.contains_cons,Bool.or_comm]
   congr 1
   rw [Bool.eq_iff_iff,decide_eq_true_iff,beq_iff_eq]
   exact eq_comm
def contT (l:List FuncId) (s:List (List FuncId)) (k:List (List FuncId)→List FuncId):List FuncId:=
 List.rec (motive:=fun _=>List FuncId) (k s) (fun a t _=>k ((a::t)::s)) l
def closureS (leads:FuncId→List FuncId) (fuel:Nat):List (List FuncId)→Nat→List FuncId→List FuncId:=
 Nat.rec (motive:=fun _=>List (List FuncId)→Nat→List FuncId→List FuncId) (fun _ _ seen=>seen.reverse)
  (fun _ ih st m seen=>List.rec (motive:=fun _=>List FuncId) seen.reverse
    (fun l s _=>List.rec (motive:=fun _=>List FuncId) []
      (fun f t _=>Bool.rec (motive:=fun _=>List FuncId) (contT t s fun s1=>contT (leads f) s1 fun s2=>ih s2 (Nat.lor m (Nat.pow 2 f)) (f::seen)) (contT t s fun s1=>ih s1 m seen) (bitF m f)) l) st) fuel
theorem contT_eq (l:List FuncId) (s:List (List FuncId)) (k:List (List FuncId)→List FuncId):contT l s k=k (if l=[] then s else l::s):=by cases l<;>rfl
theorem flat_cont (l:List FuncId) (s:List (List FuncId)):(if l=[] then s else l::s).flatten=l++s.flatten:=by
 cases l with
 |nil=>rfl
 |cons a l=>rw [if_neg (by simp),List.flatten_cons]
theorem full_cont {l:List FuncId} {s:List (List FuncId)} (h:∀ x∈s,x≠[]):∀ x∈(if l=[] then s else l::s),x≠[]:=by
 by_cases e:l=[]
 ·rw [if_pos e];exact h
 ·rw [if_neg e]
  intro x hx
  cases hx with
  |head=>exact e
  |tail _ hx=>exact h x hx
theorem closureS_eq:∀ (fuel:Nat) (st:List (List FuncId)) (m:Nat) (seen:List FuncId),(∀ x∈st,x≠[])→(∀ g,Nat.testBit m g=seen.contains g)→closureS (leadsK P) fuel st m seen=P.closureVia fuel st.flatten seen
 |0,st,m,seen,_,_=>by unfold Program.closureVia;rfl
 |n+1,[],m,seen,_,_=>by unfold Program.closureVia;rfl
 |n+1,[]::s,m,seen,hf,_=>absurd rfl (hf [] List.mem_cons_self)
 |n+1,(f::t)::s,m,seen,hf,h=>by
  have hs:∀ x∈s,x≠[]:=fun x hx=>hf x (List.mem_cons_of_mem _ hx)
  have e:closureS (leadsK P) (n+1) ((f::t)::s) m seen=Bool.rec (motive:=fun _=>List FuncId)
   (contT t s fun s1=>contT (leadsK P f) s1 fun s2=>closureS (leadsK P) n s2 (m|||2^f) (f::seen)) (contT t s fun s1=>closureS (leadsK P) n s1 m seen) (bitF m f):=rfl
  rw [e,bitF_eq,h,List.flatten_cons,List.cons_append]
  unfold Program.closureVia
  cases hc:seen.contains f with
  |true=>
   rw [if_pos rfl]
   show contT t s (fun s1=>closureS (leadsK P) n s1 m seen)=_
   rw [contT_eq,closureS_eq n _ m seen (full_cont hs) h,flat_cont]
  |false=>
   rw [if_neg (by simp),←leadsK_eq]
   show contT t s (fun s1=>contT (leadsK P f) s1 fun s2=>closureS (leadsK P) n s2 (m|||2^f) (f::seen))=_
   rw [contT_eq,contT_eq,closureS_eq n _ _ _ (full_cont (full_cont hs)) (fun g=>?_),flat_cont,flat_cont]
   rw [Nat.testBit_or,Nat.testBit_two_pow,h,List.contains_cons,Bool.or_comm]
   congr 1
   rw [Bool.eq_iff_iff,decide_eq_true_iff,beq_iff_eq]
   exact eq_comm
def closK (P:Program) (f:FuncId):List FuncId:=closureS (leadsK P) (1+(P.funcs.toList.map fun g=>(P.leadsTo g).length+1).sum) [[f]] 0 []
theorem closK_eq (f:FuncId):closK P f=P.closure f:=by
 unfold closK Program.closure
 rw [closureS_eq _ _ _ _ (fun x hx=>by simp at hx;subst hx;simp) (fun g=>by rw [Nat.zero_testBit];rfl)]
 rfl
def inPlaceK (P:Program) (f:FuncId):List String:=
 (closK P f).filterMap fun g=>(fnF P g).bind fun fn=>if fn.ours||fn.body.isNone||fn.name== "runtime.NumGoroutine" then some fn.name else none
theorem inPlaceK_eq (f:FuncId):inPlaceK P f=P.inPlace f:=by
 unfold inPlaceK Program.inPlace
 simp only [closK_eq,fnF_eq]
def unfollowedK (P:Program) (f:FuncId):Bool:=
 (closK P f).any fun g=>(fnF P g).any fun fn=>match fn.body with|some c=>c.unfollowed|none=>entryCalls fn
theorem unfollowedK_eq (f:FuncId):unfollowedK P f=P.unfollowed f:=by
 unfold unfollowedK Program.unfollowed
 simp only [closK_eq,fnF_eq]
 rfl
theorem recurses_of (f:FuncId) (h:unfollowedK P f=true):P.recurses f=true:=by
 unfold Program.recurses
 rw [←unfollowedK_eq,h];rfl
def varsNamedK (P:Program) (f:FuncId):List String:=
 ((((closK P f).flatMap fun g=>((fnF P g).bind (·.body)).elim [] Code.globalsNamed).eraseDups).filterMap (fun g=>(P.globals[g]?).map (·.name))++
  (closK P f).filterMap fun g=>(fnF P g).bind fun fn=>if fn.body.isNone then entryReads.lookup fn.name else none).eraseDups
theorem varsNamedK_eq (f:FuncId):varsNamedK P f=P.varsNamed f:=by
 unfold varsNamedK Program.varsNamed
 simp only [closK_eq,fnF_eq]
def funcNamedK (P:Program) (name:String):Option FuncId:=
 match (List.range P.funcs.size).filter fun i=>(fnF P i).any (·.name==name) with
 |[i]=>some i
 |_=>none
theorem funcNamedK_eq (name:String):funcNamedK P name=P.funcNamed name:=by
 unfold funcNamedK Program.funcNamed
 simp only [fnF_eq]
 rfl
def cellsK (P:Program) (t:TypeId):Nat:=Option.rec (motive:=fun _=>Nat) 0 (fun i=>i.size) (infoF P t)
theorem cellsK_eq (t:TypeId):cellsK P t=P.cellsOf t:=by
 unfold cellsK Program.cellsOf
 rw [infoF_eq]
 cases P.info? t<;>rfl
def isVarK (P:Program) (n:Nat) (t:TypeId):Bool:=Nat.blt t n&&kindOk (undF P t)
theorem blt_decide (a b:Nat):Nat.blt a b=decide (a<b):=by
 rw [Bool.eq_iff_iff,Nat.blt_eq,decide_eq_true_iff]
theorem isVarK_eq (t:TypeId):isVarK P P.types.size t=isVar P t:=by
 unfold isVarK isVar
 rw [undF_eq,blt_decide]
def rowFineK (P:Program) (n:Nat) (t:TypeId):Bool:=
 !isVarK P n t||
 match undF P t with
 |some (.struct fs)=>fs.toList.all (fun f=>isVarK P n f.type)&&cellsK P t==(fs.toList.map fun f=>cellsK P f.type).sum&&
   (List.range fs.toList.length).all fun j=>match fs.toList[j]? with|some f=>f.offset==((fs.toList.take j).map fun f=>cellsK P f.type).sum|none=>true
 |some (.array n2 e)=>isVarK P n e&&cellsK P t==n2*cellsK P e
 |some (.pointer e)=>isVarK P n e&&cellsK P t==1
 |some (.slice e)=>isVarK P n e&&cellsK P t==1
 |_=>cellsK P t==1
theorem rowFineK_eq (t:TypeId):rowFineK P P.types.size t=rowFine P t:=by
 unfold rowFineK rowFine
 simp only [isVarK_eq,undF_eq,cellsK_eq]
 rfl
def laidOutK (P:Program):Bool:=
 (List.range P.types.size).all (rowFineK P P.types.size)&&
 P.globals.toList.all (fun g=>Nat.blt g.type P.types.size)&&
 P.funcs.toList.all (fun f=>f.params.toList.all fun t=>Nat.blt t P.types.size)
theorem laidOutK_eq:laidOutK P=laidOutB P:=by
 unfold laidOutK laidOutB
 simp only [blt_decide,Array.all_toList]
 congr 2
 congr 1
 funext t
 exact rowFineK_eq t
def mapsRowedK (P:Program):Bool:=
 (List.range P.types.size).all fun t=>match undF P t with|some (.map _ e)=>decide (e<P.types.size)|_=>true
theorem mapsRowedK_eq:mapsRowedK P=mapsRowed P:=by
 unfold mapsRowedK mapsRowed
 simp only [undF_eq]
 rfl
def plainKeysK (P:Program):Bool:=
 (List.range P.types.size).all fun t=>match undF P t with
   |some (.map k _)=>(match undF P k with|some (.array _ _)|some (.struct _)=>false|_=>true)
   |_=>true
theorem plainKeysK_eq:plainKeysK P=P.plainKeys:=by
 unfold plainKeysK Program.plainKeys
 simp only [undF_eq]
 rfl
def stopsHeardK (P:Program):Bool:=P.funcs.toList.all fun fn=>(Stop.rowOf fn).isNone|| !fn.norace
theorem stopsHeardK_eq:stopsHeardK P=P.stopsHeard:=by
 unfold stopsHeardK Program.stopsHeard
 rw [Array.all_toList]
def laysLaterK (P:Program):Bool:=
 P.funcs.toList.any fun fn=>fn.body.isNone&&(fn.name== "runtime.SetFinalizer" ||fn.name== "runtime.AddCleanup" ||fn.origin== "runtime.AddCleanup")
theorem laysLaterK_eq:laysLaterK P=P.laysLater:=by
 unfold laysLaterK Program.laysLater
 rw [Array.any_toList]
def mayEnterK (P:Program):Bool:=
 match behindMainWord (wordsSigns P.initOrder.toList) with
 |c::rest=>
  ((c== "gc".toList||c== "spec".toList)&&(rest.isEmpty||rest.head?==some "stop".toList))||
  (c== "carried".toList&&rest.take 2==["gc".toList, "cut".toList]&& !laysLaterK P&& !P.bearsReflect)||
  ((stripLifts liftWords (c::rest)).2.head?==some "cut".toList&&
    ((stripLifts liftWords (c::rest)).1.contains "finals" || !laysLaterK P)&&((stripLifts liftWords (c::rest)).1.contains "reflectrows" || !P.bearsReflect)&&
    ((stripLifts liftWords (c::rest)).1.contains "reflectrows" || !(stripLifts liftWords (c::rest)).1.contains "leanrows")&&
    P.doorFits (stripLifts liftWords (c::rest)).1)
 |[]=>false
theorem mayEnterK_eq:mayEnterK P=P.mayEnter:=by
 unfold mayEnterK Program.mayEnter
 rw [laysLaterK_eq]
 rfl
theorem noCount_list {P:Program} (h:P.funcs.toList.all (fun fn=> !(fn.body.isSome&&fn.name== "runtime.NumGoroutine"))=true):NoCount P:=by
 intro g fn hg hb
 have:=List.all_eq_true.1 h fn (List.mem_of_getElem? (i:=g) (by rw [Array.getElem?_toList];exact hg))
 rw [hb] at this
 simpa using this
theorem goes_no {P:Program} {c:OpenClaim} (h:P.funcs.toList.any Func.goes=false) (hs:c.start= .entering):false=c.goesBy P:=by
 have key:∀ g:Nat,(P.funcs[g]?).any Func.goes=false:=by
  intro g
  cases hg:P.funcs[g]? with
  |none=>rfl
  |some fn=>
   have hm:fn∈P.funcs.toList:=List.mem_of_getElem? (i:=g) (by rw [Array.getElem?_toList];exact hg)
   have:=List.any_eq_false.1 h fn hm
   simpa using this
 have hall:P.funcs.any Func.goes=false:=by rw [←Array.any_toList];exact h
 have hP:∀ f,P.goes f=false:=by
  intro f
  unfold Program.goes
  rw [hall,Bool.and_false,Bool.or_false]
  simp only [key]
  simp
 unfold OpenClaim.goesBy Program.goesAt Program.goesFrom
 rw [hs]
 cases P.funcNamed c.func with
 |none=>rfl
 |some f=>simp [hP f]
theorem goes_yes {P:Program} {c:OpenClaim} {f:FuncId} (hf:P.funcNamed c.func=some f) (hu:unfollowedK P f=true) (h:P.funcs.toList.any Func.goes=true):true=c.goesBy P:=by
 have hall:P.funcs.any Func.goes=true:=by rw [←Array.any_toList];exact h
 unfold OpenClaim.goesBy Program.goesAt Program.goesFrom
 rw [hf]
 simp only [Option.any_some]
 unfold Program.goes
 rw [←unfollowedK_eq,hu,hall]
 simp
theorem tied_plain_goes (Lk:Looks) {p:Pinned} {s:OpenSpec} {c:OpenClaim} (kinds:List LaidKind) (tests:Bool) (har:Bool×String) (lk gg:Bool)
 (hc:c.holds p s) (hw:c.wfByText s=true) (htie:c.laidByTextAt Lk p kinds tests)
 (hst:c.start= .entering) (hnb:c.noBlocks=false∧c.again=false) (hm:p.checked.prog.mainIs=some (har.1,har.2.toList)) (hn:(!har.1&&har.2.isEmpty&& !lk)=false)
 (hl:∀ f fn,p.checked.prog.funcNamed c.func=some f→p.checked.prog.funcs[f]? =some fn→lk=p.checked.prog.looks []∧∀ (j:Nat) t,fn.params[j]? =some t→p.checked.prog.wantsStandIn t=false)
 (hg:gg=c.goesBy p.checked.prog):
 Claim7.holds p (.plain s) {stood:={row:=c,standIns:=[],harness:=har,looks:=lk},kinds:=[],alts:=[],laidByText:=true,laidKinds:=kinds,laidTests:=tests,laidLooks:=Lk,goes:=gg}:=by
 have h6:∀ r:OpenClaim,Claim7.isSixth {stood:={row:=r,standIns:=[],harness:=har,looks:=lk},kinds:=[]}=false:=fun r=>by simpa [Claim7.isSixth] using hn
 exact ⟨Claim7.tied_new_at Lk kinds tests (Claim7.new_of_sixth hc har lk hst hnb hm (h6 c) hl) hw,(fun D hD=>by cases hD),htie,(fun h=>by cases h),hg⟩
end Go.CE
