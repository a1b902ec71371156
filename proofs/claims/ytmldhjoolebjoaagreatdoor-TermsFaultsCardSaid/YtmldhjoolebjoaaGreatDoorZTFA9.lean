/-
  The texts CeH of this claim, one behind the other.
-/
import Derived.Test.YtmldhjoolebjoaaGreatDoorZTFA8
namespace Go.CE
open Go Go.RowKit
variable {P:Program} {G:Nat}
noncomputable def RN (ok:Value→H→Bool):Out→Bool
 | .call x h=>ok x h
 | .code _ _=>false
noncomputable def Ju (P:Program) (G n:Nat) (M:List gG) (f:FuncId) (xs:List Value) (gs:List (Nat×List Value)) (ok:Value→H→Bool):Bool:=
 Option.rec (motive:=fun _=>Bool) false (fun outs=>outs.all (RN ok)&&(xs.all (af 8)&&gs.all (fun p=>Nat.blt p.1 G&&p.2.all (af 8)))) (UC M n P G (.call f xs {hp:=jg gs,nx:=G,mw:=far}))
def Seen [aa] (G:Nat) (ok:Value→H→Bool) (w:World) (v':Value) (w':World):Prop:=
 ∃ (v:Value) (h:H) (ρ:Ren),ok v h=true∧VR h.nx ρ v v'∧HR G h ρ w'∧∀ i,G≤i→h.hp.get i≠none→w.heap.size≤(ρ i).1
theorem Et [aa] (hm:P.follows .mixedOrders=true) (hN:dV P) {M:List gG} (hM:∀ e∈M,pJ P G e) {n:Nat} {f:FuncId} {xs:List Value} {gs:List (Nat×List Value)} {ok:Value→H→Bool} (h:Ju P G n M f xs gs ok=true) {w:World} (hl:Xm (jg gs) G w):
 Calls P f xs.toArray w fun e w'=>∃ v',e= .returned v'∧Seen G ok w v' w'∧Below w.heap.size w w':=by
 intro cs
 unfold Ju at h
 rw [Js] at h
 cases hev:Zy P G M n (.call f xs {hp:=jg gs,nx:=G,mw:=far}) with
 |none=>rw [hev] at h;cases h
 |some outs=>
  rw [hev] at h
  have h':(outs.all (RN ok)&&(xs.all (af 8)&&gs.all (fun p=>Nat.blt p.1 G&&p.2.all (af 8))))=true:=h
  simp only [Bool.and_eq_true] at h'
  obtain ⟨h1,h2,h3⟩:=h'
  obtain ⟨hno,hg⟩:=hl
  let ρ:Ren:=fun i=>(i,0,match w.heap[i]? with|some (.cells c _ _)=>c.size|_=>0)
  have hr:HR G {hp:=jg gs,nx:=G,mw:=far} ρ w:=by
   refine ⟨fun i o hi=>?_,fun i j _ _ e=>e,fun g _=>⟨rfl,rfl⟩,Nat.le_refl _⟩
   have hi':(jg gs).get i=some o:=hi
   obtain ⟨cs',c,e,fz,rfl,ji,hlen,hfz,hcell⟩:=hg i o hi'
   have hz:(ρ i).2.2=c.size:=by show (match w.heap[i]? with|some (.cells c _ _)=>c.size|_=>0)=c.size;rw [ji]
   refine ⟨⟨?_,Nat.zero_le _⟩,_,ji,.cells _ _ _ _ hz.symm ?_ ?_ hfz⟩
   ·rcases Nat.lt_or_ge i G with hlt|hge
    ·exact hlt
    ·rw [hno i hge] at hi';cases hi'
   ·show 0+cs'.length≤c.size;omega
   ·intro j x hx
    obtain ⟨hx1,hx2⟩:=hcell j x hx
    exact ⟨x,by show c[0+j]? =some x;rw [Nat.zero_add];exact hx2,eO 8 x hx1⟩
  have hs:TP P G f xs {hp:=jg gs,nx:=G,mw:=far} outs:=RI hm hN hM n _ _ hev
  obtain ⟨x,h',hmem,v',ρ',w',fr,g1,g2,g3,g4,g5⟩:=hs .normal xs.toArray cs w ρ hr (RL h2) (.inl rfl)
  have hx:ok x h'=true:=List.all_eq_true.1 h1 _ hmem
  obtain ⟨m1,m2,m3,m4,fn,m5,m6⟩:=g5
  refine ⟨.returned v',w',fr,⟨v',rfl,⟨x,h',ρ',hx,g1,g2,fun i hi hl=>?_⟩,Quiet.below ⟨g3.os,g3.tape,g3.output,g3.size,fun b hb=>g3.block b hb (fun i hi hl=>?_)⟩⟩,g4,m4,m1,m2,m3,fn,by rw [m4];exact m5,m6⟩
  ·rcases g3.own i hi hl with ⟨j,hj,hjl,_⟩|hf
   ·exact absurd (hno j hj) hjl
   ·exact hf
  ·exact absurd (hno i hi) hl
noncomputable def PX (h:H) (size:Nat) (v:Value) (n:Nat):Option (List Value):=
 match v with
 | .slice (some ⟨i,k,none⟩) l _=>bif Nat.beq l n then (match h.hp.get i with
   |some (.cells cs)=>bif Nat.ble (k+n*size) cs.length then some ((cs.drop k).take (n*size)) else none
   |_=>none) else none
 |_=>none
theorem RP [aa] {h:H} {ρ:Ren} {w':World} {size n:Nat} {v v':Value} {cs:List Value} (hr:HR G h ρ w') (hv:VR h.nx ρ v v') (hc:PX h size v n=some cs):
 ∃ i k c b off c',v= .slice (some ⟨i,k,none⟩) n c∧h.hp.get i≠none∧b=(ρ i).1∧off=(ρ i).2.1+k∧v'= .slice (some ⟨b,off,none⟩) n c'∧mJ (ρ i).2.2 off c c'∧b<w'.heap.size∧cs.length=n*size∧
   ∀ j x,cs[j]? =some x→∃ y,w'.cell? ⟨b,off+j,none⟩=some y∧VR h.nx ρ x y:=by
 cases hv with
 |slice i k l c c' hin hcap=>
  simp only [PX] at hc
  cases hl:Nat.beq l n with
  |false=>rw [hl] at hc;cases hc
  |true=>
   have hln:l=n:=Nat.eq_of_beq_eq_true hl
   subst hln
   rw [hl,cond_true] at hc
   split at hc
   ·rename_i ds hi
    cases hb:Nat.ble (k+l*size) ds.length with
    |false=>rw [hb] at hc;cases hc
    |true=>
     rw [hb,cond_true] at hc
     cases hc
     have hle:=Nat.le_of_ble_eq_true hb
     obtain ⟨_,ob,ji,iD⟩:=hr.obj i _ hi
     cases iD with
     |cells _ cc e fz hz hlen hcv hf=>
      refine ⟨i,k,c,_,_,c',rfl,by rw [hi];simp,rfl,rfl,rfl,hcap,(Array.getElem?_eq_some_iff.1 ji).1,by simp;omega,fun j x hx=>?_⟩
      have hj:j<l*size:=by
       have:=(List.getElem?_eq_some_iff.1 hx).1
       simp at this;omega
      rw [List.getElem?_take,if_pos hj,List.getElem?_drop] at hx
      obtain ⟨y,hy,Z5⟩:=hcv _ _ hx
      refine ⟨y,?_,Z5⟩
      have e:(ρ i).2.1+k+j=(ρ i).2.1+(k+j):=by omega
      rw [e]
      unfold World.cell?
      rw [ji]
      exact hy
   ·cases hc
 |_=>simp [PX] at hc
end Go.CE
