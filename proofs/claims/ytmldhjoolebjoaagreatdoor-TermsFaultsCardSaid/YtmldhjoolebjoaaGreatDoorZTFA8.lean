/-
  The texts CeG of this claim, one behind the other.
-/
import Derived.Test.YtmldhjoolebjoaaGreatDoorZTFA7
import Derived.Lib.LaidTab
import Derived.Lib.LaidU8
import Derived.JoinedOf
import Derived.SevenTiedAt
namespace Go.CE
open Go Go.RowKit
theorem Quiet.below {w w':World} (q:Quiet w w'):Below w.heap.size w w':=⟨q.os,q.tape,q.output,q.size,q.block⟩
theorem NQ {P:Program} {W:World} {laid:List (String×DataW Unit)} (h:laidMet P laid W) {name:String} {k:IntKind} {zs:List Int} (hm:(name,Lib.tabData k zs)∈laid) (hz:0<zs.length)
 {g t e n:Nat} (hg:P.globalNamed name=some g) (hty:(P.globals[g]?).map (·.type)=some t) (ht:P.underlying t=some (.array n e)) (he:P.underlying e=some (.int k)) (hce:P.cellsOf e=1) (hct:P.cellsOf t=n):
 ∃ t',W.heap[g]? =some (.cells (zs.map fun z=>Value.int k z).toArray t' (0,0)):=by
 obtain ⟨ps,hv,_,hrow⟩:=h
 have key:∀ (l:List (String×DataW Unit)) (ps:List MemPlace),DataW.LaidVars P W l ps→∀ n d,(n,d)∈l→
  ∃ g t cs fuel p,P.globalNamed n=some g∧(P.globals[g]?).map (·.type)=some t∧W.var? P n=some cs∧DataW.trod (fun _=>()) P W 0 (fun _=>true) false fuel t cs.toList=some (d,p)∧∀ x∈MemPlace.row ⟨g,0,none⟩ cs.size,x∈ps:=by
  intro l
  induction l with
  |nil=>intro ps _ n d hm;cases hm
  |cons y l ih=>
   intro ps hl n d hm
   obtain ⟨g',t',cs,fuel,p,q,a1,a2,a3,a4,a5,rfl⟩:=hl
   cases hm with
   |head=>exact ⟨g',t',cs,fuel,p,a1,a2,a3,a4,fun x hx=>List.mem_append_left _ (List.mem_append_left _ hx)⟩
   |tail _ hm=>
    obtain ⟨g2,t2,cs2,f2,p2,b1,b2,b3,b4,b5⟩:=ih q a5 n d hm
    exact ⟨g2,t2,cs2,f2,p2,b1,b2,b3,b4,fun x hx=>List.mem_append_right _ (b5 x hx)⟩
 obtain ⟨g',t',cs,fuel,p,a1,a2,a3,a4,a5⟩:=key laid ps hv name _ hm
 obtain rfl:=Option.some.inj (hg.symm.trans a1)
 obtain rfl:=Option.some.inj (hty.symm.trans a2)
 have hcs:=Lib.cells_of_tab ht he hce hct a4
 have hsize:0<cs.size:=by
  have:cs.toList.length=zs.length:=by rw [hcs];simp
  simp at this;omega
 obtain ⟨⟨c,t'',hh⟩,_⟩:=hrow g 0 (a5 _ (by unfold MemPlace.row;exact List.mem_map.2 ⟨0,List.mem_range.2 hsize,rfl⟩))
 have hvar:W.var? P name=some c:=by
  unfold World.var?
  rw [hg,Option.bind_some,hh]
 rw [a3] at hvar
 cases hvar
 refine ⟨t'',?_⟩
 rw [hh,←hcs]
noncomputable def Jt (g:Nat) (k:IntKind) (zs:List Int):TH:=TH.e.set g (some (.cells (zs.map fun z=>Value.int k z)))
theorem J2 {W:World} {g G t:Nat} {k:IntKind} {zs:List Int} (hg:g<G) (h:W.heap[g]? =some (.cells (zs.map fun z=>Value.int k z).toArray t (0,0))):Xm (Jt g k zs) G W:=by
 have hget:∀ i,(Jt g k zs).get i=if i=g then some (.cells (zs.map fun z=>Value.int k z)) else none:=fun i=>by
  unfold Jt
  rw [TH.fT,TH.Gr]
 refine ⟨fun i hi=>by rw [hget,if_neg (by omega)],fun i o hi=>?_⟩
 rw [hget] at hi
 by_cases e:i=g
 ·subst e
  rw [if_pos rfl] at hi
  cases hi
  refine ⟨_,_,_,_,rfl,h,by simp,.inl rfl,fun j x hx=>⟨?_,by simpa using hx⟩⟩
  obtain ⟨z,_,rfl⟩:=List.mem_map.1 (List.mem_of_getElem? hx)
  rfl
 ·rw [if_neg e] at hi;cases hi
theorem G9 (G:Nat) (W:World):Xm TH.e G W:=⟨fun i _=>TH.Gr i,fun i o h=>by rw [TH.Gr] at h;cases h⟩
theorem Es {P:Program} (h:P.funcs.all (fun fn=> !(fn.body.isSome&&fn.name== "runtime.NumGoroutine"))=true):dV P:=by
 intro g fn hg hb
 have:=Array.all_eq_true_iff_forall_mem.1 h fn (Array.mem_of_getElem? hg)
 rw [hb] at this
 simpa using this
theorem AZ [aa] {P:Program} {G f:Nat} {xs:List Value} {gs:List (Nat×List Value)} {v:Value} (he:pJ P G {f:=f,args:=xs,jI:=gs,val:=v}) {W:World} (hl:Xm (jg gs) G W):
 Calls P f xs.toArray W fun e W'=>e= .returned v∧Below W.heap.size W W':=
 (PW he hl).mono fun _ _ ⟨h1,h2⟩=>⟨h1,h2.below⟩
theorem vL [aa] (P:Program) (G:Nat):∀ e∈([]:List gG),pJ P G e:=fun _ h=>by cases h
variable {P:Program}
end Go.CE
