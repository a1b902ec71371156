/-
  The texts CeD of this claim, one behind the other.
-/
import Derived.Test.YtmldhjoolebjoaaGreatDoorZTFA4
import Derived.Orders
namespace Go.CE
open Go Go.RowKit
variable [aa]
variable {P:Program} {G:Nat}
def jd (acc:Array Nat) (o:Oper):Nat:=o.after.foldl (fun s e=>if Region.binds .any e then s|||2^e.on|||acc.getD e.on 0 else s) 0
omit [aa] in
theorem Ae (ops:Array Oper):Region.before ops=ops.foldl (init:=#[]) fun acc o=>acc.push (jd acc o):=rfl
omit [aa] in
theorem Xa (acc:Array Nat) (b:Nat):∀ (l:List Edge) (s:Nat),Nat.testBit (l.foldl (fun s e=>if Region.binds .any e then s|||2^e.on|||acc.getD e.on 0 else s) s) b=true→
 Nat.testBit s b=true∨∃ e∈l,Region.binds .any e=true∧(b=e.on∨Nat.testBit (acc.getD e.on 0) b=true):=by
 intro l
 induction l with
 |nil=>intro s h;exact .inl h
 |cons e l ih=>
  intro s h
  rw [List.foldl_cons] at h
  rcases ih _ h with h1|⟨e',he',h2,h3⟩
  ·by_cases hb:Region.binds .any e=true
   ·rw [if_pos hb,Nat.testBit_or,Nat.testBit_or,Bool.or_eq_true,Bool.or_eq_true,Nat.testBit_two_pow,decide_eq_true_iff] at h1
    rcases h1 with (h1|h1)|h1
    ·exact .inl h1
    ·exact .inr ⟨e,List.mem_cons_self,hb,.inl h1.symm⟩
    ·exact .inr ⟨e,List.mem_cons_self,hb,.inr h1⟩
   ·rw [if_neg hb] at h1;exact .inl h1
  ·exact .inr ⟨e',List.mem_cons_of_mem _ he',h2,h3⟩
omit [aa] in
theorem Br:∀ (l:List Oper) (acc:Array Nat),(l.foldl (fun acc o=>acc.push (jd acc o)) acc).size=acc.size+l.length∧
 (∀ i,i<acc.size→(l.foldl (fun acc o=>acc.push (jd acc o)) acc).getD i 0=acc.getD i 0)∧
 (∀ (j:Nat) o,l[j]? =some o→∃ acc':Array Nat,acc'.size=acc.size+j∧(l.foldl (fun acc o=>acc.push (jd acc o)) acc).getD (acc.size+j) 0=jd acc' o∧
   ∀ i,i<acc'.size→acc'.getD i 0=(l.foldl (fun acc o=>acc.push (jd acc o)) acc).getD i 0):=by
 intro l
 induction l with
 |nil=>intro acc;exact ⟨rfl,fun _ _=>rfl,fun j o h=>by simp at h⟩
 |cons o l ih=>
  intro acc
  obtain ⟨h1,h2,h3⟩:=ih (acc.push (jd acc o))
  simp only [List.foldl_cons]
  have hkeep:∀ i,i<acc.size→(l.foldl (fun acc o=>acc.push (jd acc o)) (acc.push (jd acc o))).getD i 0=acc.getD i 0:=by
   intro i hi
   rw [h2 i (by simp;omega)]
   simp [Array.getElem?_push,show i≠acc.size by omega]
  refine ⟨by rw [h1];simp;omega,hkeep,fun j o' hj=>?_⟩
  cases j with
  |zero=>
   simp only [List.getElem?_cons_zero,Option.some.injEq] at hj
   subst hj
   refine ⟨acc,rfl,?_,fun i hi=>(hkeep i hi).symm⟩
   rw [Nat.add_zero,h2 acc.size (by simp)]
   simp
  |succ j=>
   rw [List.getElem?_cons_succ] at hj
   obtain ⟨acc',g1,g2,g3⟩:=h3 j o' hj
   refine ⟨acc',by rw [g1];simp;omega,?_,g3⟩
   rw [←g2];congr 1;simp;omega
omit [aa] in
theorem xe:∀ (l:List Oper) (k:Nat),eH l k=true→∀ (j:Nat) o,l[j]? =some o→∀ e∈o.after,Region.binds .any e=true→e.on<k+j:=by
 intro l
 induction l with
 |nil=>intro k _ j o h;simp at h
 |cons x l ih=>
  intro k h j o hj e he hb
  simp only [eH,Bool.and_eq_true] at h
  cases j with
  |zero=>
   simp only [List.getElem?_cons_zero,Option.some.injEq] at hj
   subst hj
   have:=List.all_eq_true.1 h.1 e (by simpa using he)
   rw [hb,Bool.not_true,Bool.false_or] at this
   exact Nat.le_of_ble_eq_true this
  |succ j=>
   rw [List.getElem?_cons_succ] at hj
   have:=ih (k+1) h.2 j o hj e he hb
   omega
omit [aa] in
theorem Rp {ops:Array Oper} (he:eH ops.toList 0=true) {j:Nat} {o:Oper} (hj:ops[j]? =some o) {b:Nat} (hb:Nat.testBit ((Region.before ops).getD j 0) b=true):
 ∃ e∈o.after,Region.binds .any e=true∧e.on<j∧(b=e.on∨Nat.testBit ((Region.before ops).getD e.on 0) b=true):=by
 rw [Ae,←Array.foldl_toList] at hb ⊢
 obtain ⟨_,_,h3⟩:=Br ops.toList #[]
 have hj':ops.toList[j]? =some o:=by rw [Array.getElem?_toList];exact hj
 obtain ⟨acc',g1,g2,g3⟩:=h3 j o hj'
 simp only [List.size_toArray,List.length_nil,Nat.zero_add] at g1 g2
 rw [g2] at hb
 unfold jd at hb
 rw [←Array.foldl_toList] at hb
 rcases Xa acc' b _ _ hb with h1|⟨e,hm,h2,h4⟩
 ·simp at h1
 ·have hlt:=xe _ _ he j o hj' e (by simpa using hm) h2
  refine ⟨e,by simpa using hm,h2,by omega,?_⟩
  rcases h4 with h4|h4
  ·exact .inl h4
  ·exact .inr (by rw [←g3 e.on (by omega)];exact h4)
omit [aa] in
theorem O6:∀ (l:List Operand) (t:Tmp),Operand.tmp t∈l→t∈tmpsOf l:=by
 intro l
 induction l with
 |nil=>intro t h;cases h
 |cons x l ih=>
  intro t h
  cases h with
  |head=>exact List.mem_cons_self
  |tail _ h=>
   have:=ih t h
   cases x<;>simp only [tmpsOf]<;>first|exact this|exact List.mem_cons_of_mem _ this
omit [aa] in
theorem LJ {tm tm':TV} {l:List Operand} (h:∀ t∈tmpsOf l,tm.get t=tm'.get t) {x:Operand} (hx:x∈l):ax G tm x=ax G tm' x:=by
 cases x with
 |tmp t=>exact h t (O6 l t hx)
 |_=>rfl
omit [aa] in
theorem ic {tm tm':TV}:∀ (l:List Operand),(∀ x∈l,ax G tm x=ax G tm' x)→dY G tm l=dY G tm' l:=by
 intro l
 induction l with
 |nil=>intro _;rfl
 |cons x l ih=>
  intro h
  simp only [dY]
  rw [h x List.mem_cons_self,ih (fun y hy=>h y (List.mem_cons_of_mem _ hy))]
section
variable {tm tm':TV} {op:Op} (h:∀ x∈op.operands,ax G tm x=ax G tm' x)
include h
omit [aa] in
theorem O7 (hp:H):mq P G tm hp op=mq P G tm' hp op:=by
 cases op<;>simp only [Op.operands] at h<;>simp only [mq]
 case move x=>exact h x (by simp)
 case assign x=>exact h x (by simp)
 case pick c a b=>simp only [K4,h c (by simp),h a (by simp),h b (by simp)]
 case build t parts=>simp only [zP,ic (parts.toList.map (·.2)) (fun x hx=>h x (by simpa using hx))]
 case load t x=>simp only [Bi,h x (by simp)]
 case nilCheck x=>simp only [qh,h x (by simp)]
 case binOp o t x y u=>simp only [zQ,h x (by simp),h y (by simp)]
 case unOp o t x=>simp only [K5,h x (by simp)]
 case convert s d x=>simp only [qi,h x (by simp)]
 case makeInterface t x=>simp only [gD,h x (by simp)]
 case makeFunc fn a b=>simp only [qj,ic a.toList (fun x hx=>h x (by simp at hx ⊢;exact .inl hx)),ic b.toList (fun x hx=>h x (by simp at hx ⊢;exact .inr hx))]
 case slice t x lo hi mx=>
  have h1:lo.map (ax G tm)=lo.map (ax G tm'):=by cases lo with|none=>rfl|some y=>simp [h y (by simp)]
  have h2:hi.map (ax G tm)=hi.map (ax G tm'):=by cases hi with|none=>rfl|some y=>simp [h y (by simp)]
  have h3:mx.map (ax G tm)=mx.map (ax G tm'):=by cases mx with|none=>rfl|some y=>simp [h y (by simp)]
  simp only [zR,h x (by simp),h1,h2,h3]
 case fieldAddr s x f=>simp only [iX,h x (by simp)]
 case field s x f=>simp only [zS,h x (by simp)]
 case indexAddr t x y=>simp only [kY,h x (by simp),h y (by simp)]
 case index t x y=>simp only [zU,h x (by simp),h y (by simp)]
 case lookup t x y ok=>simp only [vv,h x (by simp),h y (by simp)]
 case extract x i=>simp only [tZ,h x (by simp)]
 case entry x=>simp only [Dk,h x (by simp)]
 case call c=>
  obtain ⟨callee,args,ats⟩:=c
  unfold Gt
  cases callee with
  |builtin b=>
   simp only
   have ha:dY G tm args.toList=dY G tm' args.toList:=ic _ (fun x hx=>h x (by simp [Call.operands];simpa using hx))
   have h1:∀ x,args.toList=[x]→ax G tm x=ax G tm' x:=fun x hx=>h x (by simp [Call.operands];rw [←Array.mem_toList_iff,hx];exact List.mem_singleton.2 rfl)
   cases b<;>simp only [ug,qZ,ha]
   case len=>
    split
    ·rename_i x t e1 e2;simp only [Te,h1 x e1]
    ·rfl
   case cap=>
    split
    ·rename_i x t e1 e2;simp only [Tf,h1 x e1]
    ·rfl
  |_=>rfl
omit [aa] in
theorem DR (id:Nat):zO P G tm id op=zO P G tm' id op:=by
 cases op<;>simp only [Op.operands] at h<;>simp only [zO]
 case box e x=>simp only [WC,h x (by simp)]
 case buildSlice t n parts=>simp only [j3,ic (parts.toList.map (·.2)) (fun x hx=>h x (by simpa using hx))]
 case makeMap t r=>
  cases r with
  |none=>rfl
  |some x=>simp only [qg,h x (by simp)]
 case makeSlice t l c=>simp only [kX,h l (by simp),h c (by simp)]
omit [aa] in
theorem O8 (rd:Option Nat) (hp:H):FI P G rd tm hp op=FI P G rd tm' hp op:=by
 cases op<;>simp only [Op.operands] at h<;>simp only [FI]
 case store t a x=>simp only [mD,h a (by simp),h x (by simp)]
 case convert s d x=>simp only [ql,h x (by simp)]
 case mapUpdate t m k x=>simp only [iY,h m (by simp),h k (by simp),h x (by simp)]
 case insert t m k x=>simp only [iY,h m (by simp),h k (by simp),h x (by simp)]
 case mapEntry t m k=>simp only [nu,h m (by simp),h k (by simp)]
 case entryStore t m s x=>simp only [lX,h m (by simp),h s (by simp),h x (by simp)]
 case range t x=>simp only [zW,h x (by simp)]
 case defer c=>
  obtain ⟨callee,args,ats⟩:=c
  have ha:dY G tm args.toList=dY G tm' args.toList:=ic _ (fun x hx=>h x (by simp [Call.operands];exact .inr (by simpa using hx)))
  unfold Dl
  cases rd with
  |some l=>rfl
  |none=>
   cases callee with
   |value f=>
    have hf:=h f (by simp [Call.operands])
    simp only
    rw [hf,ha]
   |_=>rfl
 case call c=>
  obtain ⟨callee,args,ats⟩:=c
  have ha:dY G tm args.toList=dY G tm' args.toList:=ic _ (fun x hx=>h x (by simp [Call.operands];exact .inr (by simpa using hx)))
  unfold uh
  cases callee with
  |value f=>simp only [Bl,h f (by simp [Call.operands]),ha]
  |builtin b=>simp only [qm,ha]
  |_=>rfl
omit [aa] in
theorem IV (ih:Task→Option (List Out)) (rd:Option Nat) (df:List Deferred) (hp:H):dZ P G ih rd op tm df hp=dZ P G ih rd op tm' df hp:=by
 unfold dZ
 rw [O7 h,DR h,O8 h]
 cases op<;>simp only [Op.operands] at h
 case next x str=>simp only [K7,h x (by simp)]
 all_goals rfl
end
omit [aa] in
theorem uu {ops:Array Oper} {o:Oper} {tm tm':TV} (h:∀ t∈jH ops o,tm.get t=tm'.get t):∀ x∈o.op.operands,ax G tm x=ax G tm' x:=by
 intro x hx
 refine LJ (l:=o.op.operands.toList) (fun t ht=>h t ?_) (by simpa using hx)
 unfold jH
 exact List.mem_append_right _ (List.mem_append_left _ ht)
omit [aa] in
theorem pG {ops:Array Oper} {o:Oper} {tm tm':TV} (h:∀ t∈jH ops o,tm.get t=tm'.get t):dw ops tm o=dw ops tm' o:=by
 unfold dw
 unfold jH at h
 cases hg:o.guard with
 |none=>rfl
 |some jw=>
  obtain ⟨j,want⟩:=jw
  rw [hg] at h
  simp only at h ⊢
  cases ho:ops[j]? with
  |none=>rfl
  |some g=>
   simp only [ho] at h
   cases hd:g.dst with
   |none=>simp [hd]
   |some t=>
    have:tm.get t=tm'.get t:=h t (List.mem_append_right _ (List.mem_append_right _ (by rw [hd];simp)))
    simp [hd,this]
omit [aa] in
theorem GK {ops:Array Oper} {o:Oper} {t:Tmp} (h:o.dst=some t):t∈jH ops o:=by
 unfold jH
 exact List.mem_append_left _ (by rw [h];simp)
omit [aa] in
theorem IW (Bs:Array Nat) (t:Tmp) (j:Nat):∀ (l:List Oper) (k:Nat),bM.iH Bs t j l k=true→∀ (i:Nat) o,l[i]? =some o→o.dst=some t→bound Bs (k+i) j=true:=by
 intro l
 induction l with
 |nil=>intro k _ i o h;simp at h
 |cons x l ih=>
  intro k h i o hi hd
  simp only [bM.iH,Bool.and_eq_true] at h
  cases i with
  |zero=>
   simp only [List.getElem?_cons_zero,Option.some.injEq] at hi
   subst hi
   rw [hd] at h
   have:=h.1
   simp only [Nat.beq_refl,Bool.not_true,Bool.false_or] at this
   exact this
  |succ i=>
   rw [List.getElem?_cons_succ] at hi
   have:=ih (k+1) h.2 i o hi hd
   rwa [show k+(i+1)=k+1+i by omega]
omit [aa] in
theorem DT (ops:Array Oper) (Bs:Array Nat):∀ (l:List Oper) (k:Nat),bM ops Bs l k=true→∀ (j:Nat) o,l[j]? =some o→∀ t∈jH ops o,∀ (i:Nat) o',ops[i]? =some o'→o'.dst=some t→bound Bs i (k+j)=true:=by
 intro l
 induction l with
 |nil=>intro k _ j o h;simp at h
 |cons x l ih=>
  intro k h j o hj t ht i o' hi hd
  simp only [bM,Bool.and_eq_true] at h
  cases j with
  |zero=>
   simp only [List.getElem?_cons_zero,Option.some.injEq] at hj
   subst hj
   have:=IW Bs t k ops.toList 0 (List.all_eq_true.1 h.1 t ht) i o' (by rw [Array.getElem?_toList];exact hi) hd
   rw [Nat.zero_add] at this
   exact this
  |succ j=>
   rw [List.getElem?_cons_succ] at hj
   have:=ih (k+1) h.2 j o hj t ht i o' hi hd
   rwa [show k+(j+1)=k+1+j by omega]
end Go.CE
namespace Go.CE
open Go Go.RowKit
variable [aa]
variable {P:Program} {G:Nat}
structure Same (h h':H):Prop where
 nx:h'.nx=h.nx
 mw:h'.mw=h.mw
 get:∀ i,h'.hp.get i=h.hp.get i
theorem HR.congr {h h':H} {ρ:Ren} {w:World} (a:HR G h ρ w) (s:Same h h'):HR G h' ρ w:=by
 refine ⟨fun i o hi=>?_,fun i j hi hj e=>?_,a.jI,by rw [s.nx];exact a.bound⟩
 ·rw [s.nx];exact a.obj i o (by rw [←s.get];exact hi)
 ·rw [s.get] at hi hj;exact a.inj i j hi hj e
omit [aa] in
theorem Tr.congr {h0 h h':H} {ρ ρ':Ren} {w w':World} (a:Tr G h0 h ρ ρ' w w') (s:Same h h'):Tr G h0 h' ρ ρ' w w':=
 ⟨by rw [s.nx];exact a.nx,a.agree,a.os,a.tape,a.output,a.size,a.block,fun i hi hl=>a.own i hi (by rw [←s.get];exact hl),by rw [s.mw];exact a.mw,
   fun i hi hm=>by rw [s.get];exact a.same i hi (by rw [←s.mw];exact hm),fun i hi=>by rw [s.get];exact a.glo i hi,a.keep⟩
structure Sub (h h':H):Prop where
 nx:h'.nx=h.nx
 mw:h'.mw=h.mw
 get:∀ i x,h.hp.get i=some x→h'.hp.get i=some x
theorem HR.sub {h h':H} {ρ:Ren} {w:World} (a:HR G h' ρ w) (s:Sub h h'):HR G h ρ w:=by
 refine ⟨fun i o hi=>?_,fun i j hi hj e=>?_,a.jI,by rw [←s.nx];exact a.bound⟩
 ·rw [←s.nx];exact a.obj i o (s.get i o hi)
 ·obtain ⟨x,hx⟩:=bW hi
  obtain ⟨y,hy⟩:=bW hj
  exact a.inj i j (dP (s.get i x hx)) (dP (s.get j y hy)) e
theorem O9 {hs hB h' hB':H} {ρ ρ':Ren} {w w':World} (a:HR G hB ρ w) (s:Sub hs hB) (a':HR G h' ρ' w') (t:Tr G hs h' ρ ρ' w w')
 (hnx:hB'.nx=h'.nx) (hmw:hB'.mw=h'.mw) (hin:∀ i x,h'.hp.get i=some x→hB'.hp.get i=some x)
 (hout:∀ i,h'.hp.get i=none→hs.hp.get i=none→hB'.hp.get i=hB.hp.get i) (aex:∀ i,h'.hp.get i=none→hs.hp.get i≠none→hB'.hp.get i=none):
 HR G hB' ρ' w'∧Tr G hB hB' ρ ρ' w w':=by
 have hag:Agree hB.nx ρ ρ':=by rw [s.nx];exact t.agree
 have hcase:∀ i,hB'.hp.get i≠none→(∃ x,h'.hp.get i=some x∧hB'.hp.get i=some x)∨(h'.hp.get i=none∧hs.hp.get i=none∧∃ x,hB.hp.get i=some x∧hB'.hp.get i=some x):=by
  intro i hi
  cases hx:h'.hp.get i with
  |some x=>exact .inl ⟨x,rfl,hin i x hx⟩
  |none=>
   right
   cases hy:hs.hp.get i with
   |some y=>exact absurd (aex i hx (by rw [hy];simp)) hi
   |none=>
    have:=hout i hx hy
    obtain ⟨z,hz⟩:=bW hi
    exact ⟨rfl,rfl,z,by rw [←this];exact hz,hz⟩
 have Af:∀ i x,hB.hp.get i=some x→hs.hp.get i=none→w'.heap[(ρ i).1]? =w.heap[(ρ i).1]? ∧ρ' i=ρ i:=by
  intro i x hi hn
  obtain ⟨ahq,_⟩:=a.obj i x hi
  refine ⟨t.block _ (a.lt hi) (fun j hj hjl e=>?_),hag i ahq⟩
  obtain ⟨y,hy⟩:=bW hjl
  have:=a.inj j i (dP (s.get j y hy)) (dP hi) e
  subst this
  rw [hn] at hy;cases hy
 have hapart:∀ i j x y,h'.hp.get i=some x→hB.hp.get j=some y→hs.hp.get j=none→(ρ' i).1≠(ρ j).1:=by
  intro i j x y hi hj hn e
  rcases Nat.lt_or_ge i G with hlt|hge
  ·have h1:=t.glo i hlt
   rw [hi] at h1
   have hBi:=s.get i x h1.symm
   have hρi:ρ' i=ρ i:=hag i (a.obj i x hBi).1
   rw [hρi] at e
   have:=a.inj i j (dP hBi) (dP hj) e
   subst this
   rw [hn] at h1;cases h1
  ·rcases t.own i hge (dP hi) with ⟨k,_,hk,hke⟩|hf
   ·obtain ⟨z,hz⟩:=bW hk
    have:=a.inj k j (dP (s.get k z hz)) (dP hj) (hke.trans e)
    subst this
    rw [hn] at hz;cases hz
   ·have:=a.lt hj
    rw [←e] at this;omega
 constructor
 ·refine ⟨fun i o hi=>?_,fun i j hi hj e=>?_,a'.jI,by rw [hnx];exact a'.bound⟩
  ·rcases hcase i (dP hi) with ⟨x,h1,h2⟩|⟨_,h2,x,h3,h4⟩
   ·rw [h2] at hi;cases hi
    rw [hnx];exact a'.obj i _ h1
   ·rw [h4] at hi;cases hi
    obtain ⟨hin1,ob,ji,iD⟩:=a.obj i _ h3
    obtain ⟨e1,e2⟩:=Af i _ h3 h2
    have hle:hB.nx≤hB'.nx:=by rw [s.nx,hnx];exact t.nx
    exact ⟨hin1.mono hle hag,ob,by rw [e2,e1];exact ji,iD.mono hin1 hle hag⟩
  ·rcases hcase i hi with ⟨x,h1,_⟩|⟨_,h2,x,h3,_⟩<;>rcases hcase j hj with ⟨y,k1,_⟩|⟨_,k2,y,k3,_⟩
   ·exact a'.inj i j (dP h1) (dP k1) e
   ·rw [(Af j _ k3 k2).2] at e;exact absurd e (hapart i j x y h1 k3 k2)
   ·rw [(Af i _ h3 h2).2] at e;exact absurd e.symm (hapart j i y x k1 h3 h2)
   ·rw [(Af i _ h3 h2).2,(Af j _ k3 k2).2] at e;exact a.inj i j (dP h3) (dP k3) e
 ·refine ⟨by rw [s.nx,hnx];exact t.nx,hag,t.os,t.tape,t.output,t.size,?_,?_,by rw [s.mw,hmw];exact t.mw,?_,?_,fun i hi=>t.keep i (by rw [←s.nx];exact hi)⟩
  ·intro b hb hno
   refine t.block b hb (fun i hi hl=>?_)
   obtain ⟨x,hx⟩:=bW hl
   exact hno i hi (dP (s.get i x hx))
  ·intro i hi hl
   rcases hcase i hl with ⟨x,h1,_⟩|⟨_,h2,x,h3,_⟩
   ·rcases t.own i hi (dP h1) with ⟨k,hk,hkl,hke⟩|hf
    ·obtain ⟨z,hz⟩:=bW hkl
     exact .inl ⟨k,hk,dP (s.get k z hz),hke⟩
    ·exact .inr hf
   ·exact .inl ⟨i,hi,dP h3,by rw [(Af i _ h3 h2).2]⟩
  ·intro i hi hm
   have h1:=t.same i (by rw [←s.nx];exact hi) (by rw [←hmw];exact hm)
   cases hx:hs.hp.get i with
   |some x=>rw [s.get i x hx];exact hin i x (by rw [h1];exact hx)
   |none=>exact hout i (by rw [h1];exact hx) hx
  ·intro i hi
   have h1:=t.glo i hi
   cases hx:hs.hp.get i with
   |some x=>rw [s.get i x hx];exact hin i x (by rw [h1];exact hx)
   |none=>exact hout i (by rw [h1];exact hx) hx
theorem aey {h h' h00:H} {ρ ρ0:Ren} {w w0:World} (a:HR G h ρ w) (t:Tr G h00 h ρ0 ρ w0 w) {id:Nat} (hid:id<h.nx) (hG:G≤id) (hlo:h00.nx≤id) (hun:¬In h.nx ρ id) {o:aJ} {ob:Obj} {z:Nat}
 (ho:jV h.nx (upd ρ id (w.heap.size,0,z)) id o ob) (hnx:h'.nx=h.nx) (hmw:h'.mw=h.mw) (hget:∀ i,h'.hp.get i=if i=id then some o else h.hp.get i):
 HR G h' (upd ρ id (w.heap.size,0,z)) (w.alloc ob)∧Tr G h00 h' ρ0 (upd ρ id (w.heap.size,0,z)) w0 (w.alloc ob):=by
 have hag:Agree h.nx ρ (upd ρ id (w.heap.size,0,z)):=fun i hi=>aS _ (fun e=>hun (e▸hi))
 have hne:∀ i x,h.hp.get i=some x→i≠id:=fun i x hi e=>hun (e▸(a.obj i x hi).1)
 have hnone:h.hp.get id=none:=by
  cases hc:h.hp.get id with
  |none=>rfl
  |some x=>exact absurd (a.obj _ _ hc).1 hun
 constructor
 ·refine ⟨fun i x hi=>?_,fun i j hi hj e=>?_,fun g hg=>?_,by rw [hnx];exact a.bound⟩
  ·rw [hget] at hi
   by_cases e:i=id
   ·subst e
    rw [if_pos rfl] at hi;cases hi
    refine ⟨⟨by rw [hnx];exact hid,by rw [upd_same];exact Nat.zero_le _⟩,ob,?_,by rw [hnx];exact ho⟩
    rw [upd_same]
    show (w.heap.push ob)[w.heap.size]? =some ob
    simp
   ·rw [if_neg e] at hi
    obtain ⟨h1,VH,h2,h3⟩:=a.obj i x hi
    refine ⟨by rw [hnx];exact h1.mono (Nat.le_refl _) hag,VH,?_,by rw [hnx];exact h3.mono h1 (Nat.le_refl _) hag⟩
    rw [aS _ e,Below.heap_alloc _ _ _ (a.lt hi)]
    exact h2
  ·rw [hget] at hi hj
   by_cases ei:i=id<;>by_cases ej:j=id
   ·rw [ei,ej]
   ·subst ei
    rw [upd_same,aS _ ej] at e
    rw [if_neg ej] at hj
    obtain ⟨x,hx⟩:=bW hj
    have:=a.lt hx;simp at e;omega
   ·subst ej
    rw [upd_same,aS _ ei] at e
    rw [if_neg ei] at hi
    obtain ⟨x,hx⟩:=bW hi
    have:=a.lt hx;simp at e;omega
   ·rw [aS _ ei,aS _ ej] at e
    rw [if_neg ei] at hi;rw [if_neg ej] at hj
    exact a.inj i j hi hj e
  ·rw [aS _ (by omega)]
   exact a.jI g hg
 ·refine ⟨by rw [hnx];exact t.nx,fun i hi=>?_,t.os,t.tape,t.output,by have:=t.size;simp;omega,fun b hb hno=>?_,?_,by rw [hmw];exact t.mw,?_,?_,?_⟩
  ·rw [aS _ (by have:=hi.1;omega)];exact t.agree i hi
  ·rw [Below.heap_alloc _ _ _ (Nat.lt_of_lt_of_le hb t.size)];exact t.block b hb hno
  ·intro i hi hl
   rw [hget] at hl
   by_cases e:i=id
   ·subst e;rw [upd_same];exact .inr t.size
   ·rw [if_neg e] at hl;rw [aS _ e];exact t.own i hi hl
  ·intro i hi hm
   have hne:i≠id:=by have:=hi.1;omega
   rw [hget,if_neg hne]
   exact t.same i hi (by rw [←hmw];exact hm)
  ·intro i hi;rw [hget,if_neg (by omega)];exact t.glo i hi
  ·intro i hi;rw [aS _ (by omega)];exact t.keep i hi
def fV (B:Nat):List (Nat×Nat×aJ)→Nat→Option aJ
 |[],_=>none
 |(k,id,o)::r,i=>if Nat.testBit B k=true∧i=id then some o else fV B r i
omit [aa] in
theorem aK (B:Nat) (h:H):∀ (as:List (Nat×Nat×aJ)),(aI B h as).nx=h.nx∧(aI B h as).mw=h.mw∧∀ i,(aI B h as).hp.get i=(h.hp.get i).or (fV B as i):=by
 intro as
 induction as with
 |nil=>exact ⟨rfl,rfl,fun i=>by simp [aI,fV]⟩
 |cons x r ih=>
  obtain ⟨k,id,o⟩:=x
  obtain ⟨h1,h2,h3⟩:=ih
  simp only [aI,fV]
  cases hb:Nat.testBit B k with
  |false=>simp only [cond_false,Bool.false_eq_true,false_and,if_false];exact ⟨h1,h2,h3⟩
  |true=>
   simp only [cond_true,true_and]
   cases hg:h.hp.get id with
   |some y=>
    refine ⟨h1,h2,fun i=>?_⟩
    rw [h3]
    by_cases e:i=id
    ·subst e;rw [if_pos rfl,hg];rfl
    ·rw [if_neg e]
   |none=>
    refine ⟨h1,h2,fun i=>?_⟩
    show ((aI B h r).hp.set id (some o)).get i=_
    rw [TH.fT]
    by_cases e:i=id
    ·subst e;rw [if_pos rfl,if_pos rfl,hg];rfl
    ·rw [if_neg e,if_neg e,h3]
omit [aa] in
theorem om {B:Nat}:∀ {as:List (Nat×Nat×aJ)} {i:Nat} {o:aJ},fV B as i=some o→∃ k,(k,i,o)∈as∧Nat.testBit B k=true:=by
 intro as
 induction as with
 |nil=>intro i o h;cases h
 |cons x r ih=>
  intro i o h
  obtain ⟨k,id,ob⟩:=x
  simp only [fV] at h
  split at h
  ·rename_i hc;cases h;obtain ⟨h1,rfl⟩:=hc;exact ⟨k,List.mem_cons_self,h1⟩
  ·obtain ⟨k',h1,h2⟩:=ih h;exact ⟨k',List.mem_cons_of_mem _ h1,h2⟩
omit [aa] in
theorem LK {B:Nat}:∀ {as:List (Nat×Nat×aJ)} {i:Nat},fV B as i=none→∀ k o,(k,i,o)∈as→Nat.testBit B k=false:=by
 intro as
 induction as with
 |nil=>intro i _ k o h;cases h
 |cons x r ih=>
  intro i h k o hm
  obtain ⟨k1,id,ob⟩:=x
  simp only [fV] at h
  split at h
  ·cases h
  ·rename_i hc
   cases hm with
   |head=>cases hb:Nat.testBit B k with|false=>rfl|true=>exact absurd ⟨hb,rfl⟩ hc
   |tail _ hm=>exact ih h k o hm
def Uniq (as:List (Nat×Nat×aJ)):Prop:=∀ k k' i o o',(k,i,o)∈as→(k',i,o')∈as→k=k'∧o=o'
omit [aa] in
theorem Ag {B:Nat} {as:List (Nat×Nat×aJ)} (hu:Uniq as) {k i:Nat} {o:aJ} (hm:(k,i,o)∈as) (hb:Nat.testBit B k=true):fV B as i=some o:=by
 cases h:fV B as i with
 |none=>have:=LK h k o hm;rw [hb] at this;cases this
 |some o'=>obtain ⟨k',h1,_⟩:=om h;rw [(hu _ _ _ _ _ h1 hm).2]
omit [aa] in
theorem qx {B M:Nat} {as as':List (Nat×Nat×aJ)} (hu:Uniq as') (hsub:∀ x∈as,x∈as') (hBM:∀ b,Nat.testBit B b=true→Nat.testBit M b=true) (h:H):Sub (aI B h as) (aI M h as'):=by
 obtain ⟨a1,a2,a3⟩:=aK B h as
 obtain ⟨b1,b2,b3⟩:=aK M h as'
 refine ⟨by rw [a1,b1],by rw [a2,b2],fun i x hx=>?_⟩
 rw [a3] at hx
 rw [b3]
 cases hg:h.hp.get i with
 |some y=>rw [hg] at hx;exact hx
 |none=>
  rw [hg] at hx
  simp only [Option.none_or] at hx ⊢
  obtain ⟨k,h1,h2⟩:=om hx
  exact Ag hu (hsub _ h1) (hBM k h2)
end Go.CE
namespace Go.CE
open Go Go.RowKit
variable [aa]
variable {P:Program} {G:Nat}
section
variable {ih:Task→Option (List Out)} {rd:Option Nat} {sz:Nat} {ops:Array Oper} {Bs:Array Nat} {bq i:Nat} {o:Oper} {d d':Dr}
structure LM (P:Program) (sz:Nat) (ops:Array Oper) (i:Nat) (o:Oper) (d d':Dr):Prop where
 wanted:dw ops d.tm o=some false
 eq:d'= {tm:=iT sz d.tm o.dst undef,df:=d.df,h:=d.h,as:=d.as,es:=d.es,rs:=⟨i,o,d.tm,.skip,undef⟩::d.rs}
structure vG (P:Program) (G sz:Nat) (ops:Array Oper) (Bs:Array Nat) (i:Nat) (o:Oper) (v:Value) (d d':Dr):Prop where
 wanted:dw ops d.tm o=some true
 cls:cls P o.op= .reads
 run:∃ h,mq P G d.tm h o.op=some v
 eq:d'= {tm:=iT sz d.tm o.dst v,df:=d.df,h:=d.h,as:=d.as,es:=d.es,rs:=⟨i,o,d.tm,.reads,v⟩::d.rs}
structure GL (P:Program) (G sz:Nat) (ops:Array Oper) (bq:Nat) (i:Nat) (o:Oper) (v:Value) (b:aJ) (d d':Dr):Prop where
 wanted:dw ops d.tm o=some true
 cls:cls P o.op= .makes
 run:zO P G d.tm (bq+i) o.op=some (v,b)
 eq:d'= {tm:=iT sz d.tm o.dst v,df:=d.df,h:=d.h,as:=(i,bq+i,b)::d.as,es:=d.es,rs:=⟨i,o,d.tm,.makes (bq+i) b,v⟩::d.rs}
structure uw (P:Program) (G:Nat) (ih:Task→Option (List Out)) (rd:Option Nat) (sz:Nat) (ops:Array Oper) (Bs:Array Nat) (bq:Nat) (i:Nat) (o:Oper) (r:V3) (d d':Dr):Prop where
 wanted:dw ops d.tm o=some true
 es:∀ e∈d.es,Nat.testBit (Bs.getD i 0) e=true
 run:dZ P G ih rd o.op d.tm d.df (aI (Bs.getD i 0) d.h d.as)=some [r]
 keep:(mQ o.op||lY bq (aI (Bs.getD i 0) d.h d.as) r.h ops.size)=true
 eq:d'= {tm:=iT sz d.tm o.dst r.v,df:=r.df,h:=r.h,as:=d.as,es:=i::d.es,rs:=⟨i,o,d.tm,.acts r.df r.h,r.v⟩::d.rs}
omit [aa] in
theorem dx (h:jU P G ih rd sz ops Bs bq i o d=some d'):
 LM P sz ops i o d d'∨(∃ v,vG P G sz ops Bs i o v d d')∨(∃ v b,GL P G sz ops bq i o v b d d')∨(∃ r,uw P G ih rd sz ops Bs bq i o r d d'):=by
 unfold jU at h
 cases hg:yx (Bs.getD i 0) o with
 |false=>rw [hg] at h;cases h
 |true=>
  rw [hg,cond_true] at h
  split at h
  ·cases h
  ·rename_i hw;cases h;exact .inl ⟨hw,rfl⟩
  ·rename_i hw
   split at h
   ·rename_i hc
    split at h
    ·rename_i hr;cases h;exact .inr (.inl ⟨_,hw,hc,⟨_,hr⟩,rfl⟩)
    ·cases h
   ·rename_i hc
    split at h
    ·rename_i hr;cases h;exact .inr (.inr (.inl ⟨_,_,hw,hc,hr,rfl⟩))
    ·cases h
   ·cases he:d.es.all (fun e=>Nat.testBit (Bs.getD i 0) e) with
    |false=>rw [he] at h;cases h
    |true=>
     rw [he,cond_true] at h
     unfold zZ at h
     split at h
     ·rename_i r hr
      cases hk:(mQ o.op||lY bq (aI (Bs.getD i 0) d.h d.as) r.h ops.size) with
      |false=>rw [hk] at h;cases h
      |true=>
       rw [hk,cond_true] at h;cases h
       exact .inr (.inr (.inr ⟨r,hw,List.all_eq_true.1 he,hr,hk,rfl⟩))
     ·cases h
end
omit [aa] in
theorem IX:∀ (rs:List Rec) (acc:List eG),aP rs acc=aP rs []++acc:=by
 intro rs
 induction rs with
 |nil=>intro acc;rfl
 |cons r rs ih=>
  intro acc
  simp only [aP]
  split
  ·rw [ih (_::acc),ih [_]];simp
  ·rw [ih]
omit [aa] in
theorem pI (r:Rec) (rs:List Rec):aP (r::rs) []=aP rs []++(match r.k with| .acts df h=>[⟨r.i,df,h⟩]|_=>[]):=by
 simp only [aP]
 split
 ·rename_i df h hk;rw [IX,hk]
 ·rename_i hk
  cases hr:r.k<;>first|exact (List.append_nil _).symm|exact absurd hr (hk _ _)
structure bV (P:Program) (G:Nat) (ih:Task→Option (List Out)) (rd:Option Nat) (sz:Nat) (ops:Array Oper) (Bs:Array Nat) (bq i0:Nat) (l:List Oper) (d dF:Dr) (D:Nat→Dr) (T:Nat→List eG):Prop where
 first:D 0=d
 last:D l.length=dF
 step:∀ (j:Nat) o,l[j]? =some o→jU P G ih rd sz ops Bs bq (i0+j) o (D j)=some (D (j+1))
 stages:aP dF.rs []=aP d.rs []++T 0
 done:T l.length=[]
 stage:∀ (j:Nat) o,l[j]? =some o→T j=(match (D (j+1)).rs with|r::_=>(match r.k with| .acts df h=>[⟨r.i,df,h⟩]|_=>[])|[]=>[])++T (j+1)
 recs:∀ j,j≤l.length→∀ r∈(D j).rs,r∈dF.rs
 made:∀ j,j≤l.length→∀ x∈(D j).as,x∈dF.as
section
variable {ih:Task→Option (List Out)} {rd:Option Nat} {sz:Nat} {ops:Array Oper} {Bs:Array Nat} {bq:Nat}
omit [aa] in
theorem IY {i:Nat} {o:Oper} {d d':Dr} (h:jU P G ih rd sz ops Bs bq i o d=some d'):∃ r,d'.rs=r::d.rs:=by
 rcases dx h with h|⟨v,h⟩|⟨v,b,h⟩|⟨r,h⟩<;>rw [h.eq]<;>exact ⟨_,rfl⟩
omit [aa] in
theorem aal {i:Nat} {o:Oper} {d d':Dr} (h:jU P G ih rd sz ops Bs bq i o d=some d'):∀ x∈d.as,x∈d'.as:=by
 rcases dx h with h|⟨v,h⟩|⟨v,b,h⟩|⟨r,h⟩<;>rw [h.eq]<;>intro x hx<;>first|exact hx|exact List.mem_cons_of_mem _ hx
omit [aa] in
theorem LP:∀ (l:List Oper) (i0:Nat) (d dF:Dr),uj P G ih rd sz ops Bs bq l i0 d=some dF→∃ D T,bV P G ih rd sz ops Bs bq i0 l d dF D T:=by
 intro l
 induction l with
 |nil=>
  intro i0 d dF h
  cases h
  exact ⟨fun _=>d,fun _=>[],rfl,rfl,fun j o h=>by simp at h,by simp,rfl,fun j o h=>by simp at h,fun j _ r hr=>hr,fun j _ r hr=>hr⟩
 |cons o l ih2=>
  intro i0 d dF h
  simp only [uj] at h
  split at h
  ·rename_i d1 h1
   obtain ⟨D,T,c⟩:=ih2 _ _ _ h
   obtain ⟨r,hr⟩:=IY h1
   refine ⟨fun j=>match j with|0=>d|j+1=>D j,fun j=>match j with|0=>(match r.k with| .acts df h=>[⟨r.i,df,h⟩]|_=>[])++T 0|j+1=>T j,rfl,c.last,?_,?_,c.done,?_,?_,?_⟩
   ·intro j o' ho
    cases j with
    |zero=>
     simp only [List.getElem?_cons_zero,Option.some.injEq] at ho
     subst ho
     show jU P G ih rd sz ops Bs bq (i0+0) o d=some (D 0)
     rw [c.first];exact h1
    |succ j=>
     rw [List.getElem?_cons_succ] at ho
     have:=c.step j o' ho
     rw [show i0+(j+1)=i0+1+j by omega]
     exact this
   ·show aP dF.rs []=_
    rw [c.stages,hr,pI,List.append_assoc]
   ·intro j o' ho
    cases j with
    |zero=>
     show _=(match (D 0).rs with|r::_=>(match r.k with| .acts df h=>[⟨r.i,df,h⟩]|_=>[])|[]=>[])++T 0
     rw [c.first,hr]
    |succ j=>
     rw [List.getElem?_cons_succ] at ho
     exact c.stage j o' ho
   ·intro j hj r' hr'
    cases j with
    |zero=>exact c.recs 0 (Nat.zero_le _) r' (by rw [c.first,hr];exact List.mem_cons_of_mem _ hr')
    |succ j=>exact c.recs j (by simpa using hj) r' hr'
   ·intro j hj x hx
    cases j with
    |zero=>exact c.made 0 (Nat.zero_le _) x (by rw [c.first];exact aal h1 x hx)
    |succ j=>exact c.made j (by simpa using hj) x hx
  ·cases h
end
omit [aa] in
theorem Pb {Bs:Array Nat} {as:List (Nat×Nat×aJ)} {st:List eG} {h0:H}:∀ {rs:List Rec},gF P G Bs as st h0 rs=true→∀ r∈rs,r.k= .reads→iZ r.o.op=true∨fG P G Bs (Bs.getD r.i 0) as r st h0=true:=by
 intro rs
 induction rs with
 |nil=>intro _ r hr;cases hr
 |cons x rs ih=>
  intro h r hr hk
  simp only [gF,Bool.and_eq_true] at h
  cases hr with
  |head=>have:=h.1;rw [hk] at this;simpa [Bool.or_eq_true] using this
  |tail _ hr=>exact ih h.2 r hr hk
omit [aa] in
theorem LQ {bq:Nat} {h h1:H}:∀ {n:Nat},lY bq h h1 n=true→∀ i,i<n→h.hp.get (bq+i)≠none→h1.hp.get (bq+i)≠none:=by
 intro n
 induction n with
 |zero=>intro _ i hi;omega
 |succ n ih=>
  intro h i hi hne
  simp only [lY,Bool.and_eq_true] at h
  by_cases e:i=n
  ·subst e
   have h2:=h.1
   split at h2
   ·rename_i hx;exact absurd hx hne
   ·intro hn;rw [hn] at h2;cases h2
  ·exact ih h.2 i (by omega) hne
omit [aa] in
theorem DU {op:Op} (hn:iZ op=true) (tm:TV) (h h':H):mq P G tm h op=mq P G tm h' op:=by
 cases op<;>first|rfl|cases hn
omit [aa] in
theorem LU {ih:Task→Option (List Out)} {rd:Option Nat} {op:Op} {tm:TV} {df:List Deferred} {h:H} {r:V3} (hs:mQ op=true) (hr:dZ P G ih rd op tm df h=some [r]) (i:Nat) (hi:h.hp.get i≠none):r.h.hp.get i≠none:=by
 cases op with
 |store t a x=>
  change (match mD P G tm h t a x with|some l=>Gy G ih h df l|none=>none)=some [r] at hr
  cases he:mD P G tm h t a x with
  |none=>rw [he] at hr;cases hr
  |some l=>
   rw [he] at hr
   unfold mD at he
   split at he
   ·rename_i j k v n _ _ _
    cases hb:Nat.beq v.cells.size n with
    |false=>rw [hb] at he;cases he
    |true=>
     rw [hb,cond_true] at he
     split at he
     ·rename_i h1 hw
      cases he
      cases hr
      show h1.hp.get i≠none
      unfold H.write at hw
      cases hb2:(Nat.ble G j&&v.cells.toList.all oneCell) with
      |false=>rw [hb2] at hw;cases hw
      |true=>
       rw [hb2,cond_true] at hw
       split at hw
       ·split at hw
        ·cases hw
         show (h.hp.set j _).get i≠none
         rw [TH.fT]
         split
         ·simp
         ·exact hi
        ·cases hw
       ·cases hw
     ·cases he
   ·cases he
 |_=>cases hs
section
variable {ih:Task→Option (List Out)} {rd:Option Nat} {sz:Nat} {ops:Array Oper} {Bs:Array Nat} {bq:Nat} {d dF:Dr} {D:Nat→Dr} {T:Nat→List eG}
def Eff (D:Nat→Dr) (i:Nat):Prop:=(D (i+1)).es=i::(D i).es
omit [aa] in
theorem dz {α:Type} (x:α) (l:List α):l≠x::l:=fun h=>by have:=congrArg List.length h;simp at this
variable (c:bV P G ih rd sz ops Bs bq 0 ops.toList d dF D T)
include c
omit [aa] in
theorem bV.step' {i:Nat} {o:Oper} (ho:ops[i]? =some o):jU P G ih rd sz ops Bs bq i o (D i)=some (D (i+1)):=by
 have:=c.step i o (by rw [Array.getElem?_toList];exact ho)
 rw [Nat.zero_add] at this;exact this
omit [aa] in
theorem bV.quiet {i:Nat} {o:Oper} (ho:ops[i]? =some o) (hn:¬Eff D i):(D (i+1)).es=(D i).es∧(D (i+1)).h=(D i).h∧(D (i+1)).df=(D i).df∧T i=T (i+1):=by
 have h:=c.step' ho
 have hs:=c.stage i o (by rw [Array.getElem?_toList];exact ho)
 rcases dx h with h|⟨v,h⟩|⟨v,b,h⟩|⟨r,h⟩
 ·rw [h.eq] at hs ⊢;exact ⟨rfl,rfl,rfl,hs⟩
 ·rw [h.eq] at hs ⊢;exact ⟨rfl,rfl,rfl,hs⟩
 ·rw [h.eq] at hs ⊢;exact ⟨rfl,rfl,rfl,hs⟩
 ·exact absurd (show (D (i+1)).es=i::(D i).es by rw [h.eq]) hn
omit [aa] in
theorem bV.act {i:Nat} {o:Oper} (ho:ops[i]? =some o) (ha:Eff D i):T i=⟨i,(D (i+1)).df,(D (i+1)).h⟩::T (i+1):=by
 have h:=c.step' ho
 have hs:=c.stage i o (by rw [Array.getElem?_toList];exact ho)
 unfold Eff at ha
 rcases dx h with h|⟨v,h⟩|⟨v,b,h⟩|⟨r,h⟩
 ·rw [h.eq] at ha;exact absurd ha (dz _ _)
 ·rw [h.eq] at ha;exact absurd ha (dz _ _)
 ·rw [h.eq] at ha;exact absurd ha (dz _ _)
 ·rw [h.eq] at hs ⊢;exact hs
omit c in
omit [aa] in
theorem mK {i:Nat} (hi:i<ops.size):∃ o,ops[i]? =some o:=⟨ops[i],Array.getElem?_eq_getElem hi⟩
omit [aa] in
theorem bV.es (h0:d.es=[]):∀ i,i≤ops.size→∀ e,e∈(D i).es↔e<i∧Eff D e:=by
 intro i
 induction i with
 |zero=>intro _ e;rw [c.first,h0];simp
 |succ i ih2=>
  intro hi e
  obtain ⟨o,ho⟩:=mK (ops:=ops) (i:=i) (by omega)
  by_cases ha:Eff D i
  ·rw [ha,List.mem_cons,ih2 (by omega)]
   constructor
   ·rintro (rfl|⟨h1,h2⟩)
    ·exact ⟨by omega,ha⟩
    ·exact ⟨by omega,h2⟩
   ·rintro ⟨h1,h2⟩
    by_cases e2:e=i
    ·exact .inl e2
    ·exact .inr ⟨by omega,h2⟩
  ·rw [(c.quiet ho ha).1,ih2 (by omega)]
   constructor
   ·rintro ⟨h1,h2⟩;exact ⟨by omega,h2⟩
   ·rintro ⟨h1,h2⟩
    exact ⟨by have:e≠i:=fun e2=>ha (e2▸h2);omega,h2⟩
omit [aa] in
theorem bV.still {p j:Nat} (hpj:p≤j) (hj:j≤ops.size) (hn:∀ e,p≤e→e<j→¬Eff D e):(D j).h=(D p).h∧(D j).df=(D p).df:=by
 induction j with
 |zero=>obtain rfl:p=0:=by omega
        exact ⟨rfl,rfl⟩
 |succ j ih2=>
  by_cases e:p=j+1
  ·subst e;exact ⟨rfl,rfl⟩
  ·obtain ⟨o,ho⟩:=mK (ops:=ops) (i:=j) (by omega)
   obtain ⟨_,h1,h2,_⟩:=c.quiet ho (hn j (by omega) (by omega))
   obtain ⟨h3,h4⟩:=ih2 (by omega) (by omega) (fun e he hl=>hn e he (by omega))
   exact ⟨h1.trans h3,h2.trans h4⟩
omit [aa] in
theorem bV.as (h0:d.as=[]):∀ i,i≤ops.size→(∀ k id o,(k,id,o)∈(D i).as→k<i∧id=bq+k)∧Uniq (D i).as:=by
 intro i
 induction i with
 |zero=>intro _;rw [c.first,h0];exact ⟨fun _ _ _ h=>(by cases h),fun _ _ _ _ _ h=>(by cases h)⟩
 |succ i ih2=>
  intro hi
  obtain ⟨o,ho⟩:=mK (ops:=ops) (i:=i) (by omega)
  obtain ⟨h1,h2⟩:=ih2 (by omega)
  have h:=c.step' ho
  have keep:(D (i+1)).as=(D i).as→(∀ k id o,(k,id,o)∈(D (i+1)).as→k<i+1∧id=bq+k)∧Uniq (D (i+1)).as:=by
   intro e;rw [e];exact ⟨fun k id o hm=>⟨by have:=(h1 k id o hm).1;omega,(h1 k id o hm).2⟩,h2⟩
  rcases dx h with h|⟨v,h⟩|⟨v,b,h⟩|⟨r,h⟩
  ·exact keep (by rw [h.eq])
  ·exact keep (by rw [h.eq])
  ·rw [h.eq]
   refine ⟨fun k id o hm=>?_,fun k k' j o o' hm hm'=>?_⟩
   ·cases hm with
    |head=>exact ⟨by omega,rfl⟩
    |tail _ hm=>exact ⟨by have:=(h1 k id o hm).1;omega,(h1 k id o hm).2⟩
   ·cases hm with
    |head=>
     cases hm' with
     |head=>exact ⟨rfl,rfl⟩
     |tail _ hm'=>have:=h1 _ _ _ hm';omega
    |tail _ hm=>
     cases hm' with
     |head=>have:=h1 _ _ _ hm;omega
     |tail _ hm'=>exact h2 _ _ _ _ _ hm hm'
  ·exact keep (by rw [h.eq])
omit [aa] in
theorem bV.Xb {i:Nat} {o:Oper} (ho:ops[i]? =some o) {t:Tmp} (hd:o.dst≠some t):(D (i+1)).tm.get t=(D i).tm.get t:=by
 have key:∀ v,(iT sz (D i).tm o.dst v).get t=(D i).tm.get t:=by
  intro v
  unfold iT
  cases hdst:o.dst with
  |none=>rfl
  |some x=>
   have:t≠x:=fun e=>hd (by rw [hdst,e])
   simp only
   cases Nat.blt x sz with
   |false=>rfl
   |true=>rw [cond_true,TV.fT,if_neg this]
 rcases dx (c.step' ho) with h|⟨v,h⟩|⟨v,b,h⟩|⟨r,h⟩<;>rw [h.eq]<;>exact key _
end
end Go.CE
namespace Go.CE
open Go Go.RowKit
variable [aa]
variable {P:Program} {G:Nat}
omit [aa] in
theorem IZ (M j i:Nat):Nat.testBit (M|||2^j) i=(Nat.testBit M i||decide (j=i)):=by rw [Nat.testBit_or,Nat.testBit_two_pow]
omit [aa] in
theorem kH (M j:Nat):Nat.testBit (M|||2^j) j=true:=by rw [IZ];simp
omit [aa] in
theorem dG (M:Nat) {j i:Nat} (h:i≠j):Nat.testBit (M|||2^j) i=Nat.testBit M i:=by
 rw [IZ];have:¬(j=i):=fun e=>h e.symm
 simp [this]
omit [aa] in
theorem je {M j i:Nat} (h:Nat.testBit M i=true):Nat.testBit (M|||2^j) i=true:=by rw [IZ,h];rfl
section
variable {ih:Task→Option (List Out)} {rd:Option Nat} {sz:Nat} {ops:Array Oper} {Bs:Array Nat} {bq:Nat} {d dF:Dr} {D:Nat→Dr} {T:Nat→List eG} {O3:TV} {t:Tmp}
noncomputable def Wn (ops:Array Oper) (D:Nat→Dr) (M:Nat) (O3:TV) (t:Tmp):Nat→Option Value
 |0=>O3.get t
 |i+1=>if Nat.testBit M i=true∧(ops[i]?).bind (·.dst)=some t then (D (i+1)).tm.get t else Wn ops D M O3 t i
omit [aa] in
theorem Xc {i:Nat} (h:(ops[i]?).bind (·.dst)=some t):∃ o,ops[i]? =some o∧o.dst=some t:=by
 cases ho:ops[i]? with
 |none=>rw [ho] at h;cases h
 |some o=>rw [ho] at h;exact ⟨o,rfl,h⟩
omit [aa] in
theorem Xd {M M':Nat}:∀ n,(∀ i o,i<n→ops[i]? =some o→o.dst=some t→Nat.testBit M i=Nat.testBit M' i)→Wn ops D M O3 t n=Wn ops D M' O3 t n:=by
 intro n
 induction n with
 |zero=>intro _;rfl
 |succ n ih2=>
  intro h
  simp only [Wn]
  rw [ih2 (fun i o hi=>h i o (by omega))]
  by_cases hd:(ops[n]?).bind (·.dst)=some t
  ·obtain ⟨o,h1,h2⟩:=Xc hd
   rw [h n o (by omega) h1 h2]
  ·simp only [hd,and_false,if_false]
omit [aa] in
theorem DW {M j:Nat}:∀ n,j≤n→(∀ i o,j≤i→i<n→ops[i]? =some o→o.dst=some t→Nat.testBit M i=false)→Wn ops D M O3 t n=Wn ops D M O3 t j:=by
 intro n
 induction n with
 |zero=>intro hj _;obtain rfl:j=0:=by omega
        rfl
 |succ n ih2=>
  intro hj h
  by_cases e:j=n+1
  ·rw [e]
  ·simp only [Wn]
   rw [if_neg,ih2 (by omega) (fun i o h1 h2=>h i o h1 (by omega))]
   rintro ⟨h1,h2⟩
   obtain ⟨o,h3,h4⟩:=Xc h2
   rw [h n o (by omega) (by omega) h3 h4] at h1;cases h1
omit [aa] in
theorem DX (c:bV P G ih rd sz ops Bs bq 0 ops.toList d dF D T) (h0:d.tm=O3) {M:Nat}:∀ j,j≤ops.size→(∀ i o,i<j→ops[i]? =some o→o.dst=some t→Nat.testBit M i=true)→Wn ops D M O3 t j=(D j).tm.get t:=by
 intro j
 induction j with
 |zero=>intro _ _;rw [c.first,h0];rfl
 |succ j ih2=>
  intro hj h
  simp only [Wn]
  obtain ⟨o,ho⟩:=mK (ops:=ops) (i:=j) (by omega)
  by_cases hd:o.dst=some t
  ·rw [if_pos ⟨h j o (by omega) ho hd,by rw [ho];exact hd⟩]
  ·rw [if_neg (by rw [ho];exact fun e=>hd e.2),ih2 (by omega) (fun i o hi=>h i o (by omega)),c.Xb ho hd]
omit [aa] in
theorem uA {i j:Nat} (h:bound Bs i j=true):i=j∨(i<j∧Nat.testBit (Bs.getD j 0) i=true)∨(j<i∧Nat.testBit (Bs.getD i 0) j=true):=by
 unfold bound at h
 rw [Bool.or_eq_true] at h
 rcases h with h|h
 ·exact .inl (beq_true h)
 ·cases hb:Nat.blt i j with
  |true=>rw [hb,cond_true] at h;exact .inr (.inl ⟨Nat.le_of_ble_eq_true hb,h⟩)
  |false=>
   rw [hb,cond_false] at h
   by_cases e:i=j
   ·exact .inl e
   ·refine .inr (.inr ⟨?_,h⟩)
    have:¬(i<j):=fun hl=>by have:=Nat.ble_eq_true_of_le hl;exact absurd (hb.symm.trans this) (by simp)
    omega
omit [aa] in
theorem yN {Bc:Array Nat} (c:bV P G ih rd sz ops Bc bq 0 ops.toList d dF D T) (h0:d.tm=O3) (hn:bM ops Bs ops.toList 0=true) {M j:Nat} {o:Oper} (ho:ops[j]? =some o)
 (closed:∀ j b,j<ops.size→Nat.testBit M j=true→Nat.testBit (Bs.getD j 0) b=true→Nat.testBit M b=true) (hun:Nat.testBit M j=false)
 (hre:∀ b,Nat.testBit (Bs.getD j 0) b=true→Nat.testBit M b=true) (ht:t∈jH ops o):Wn ops D M O3 t ops.size=(D j).tm.get t:=by
 have hj:j<ops.size:=(Array.getElem?_eq_some_iff.1 ho).1
 have hb:∀ i o',ops[i]? =some o'→o'.dst=some t→bound Bs i j=true:=by
  intro i o' hi hd
  have:=DT ops Bs ops.toList 0 hn j o (by rw [Array.getElem?_toList];exact ho) t ht i o' hi hd
  rw [Nat.zero_add] at this;exact this
 rw [DW (j:=j) ops.size (by omega),DX c h0 j (by omega)]
 ·intro i o' hi h1 h2
  rcases uA (hb i o' h1 h2) with e|⟨_,e⟩|⟨e,_⟩
  ·omega
  ·exact hre i e
  ·omega
 ·intro i o' h1 h2 h3 h4
  rcases uA (hb i o' h3 h4) with e|⟨e,_⟩|⟨_,e⟩
  ·subst e;exact hun
  ·omega
  ·cases hc:Nat.testBit M i with
   |false=>rfl
   |true=>have:=closed i j (by omega) hc e;rw [hun] at this;cases this
omit [aa] in
theorem Ah {Bc:Array Nat} (c:bV P G ih rd sz ops Bc bq 0 ops.toList d dF D T) (h0:d.tm=O3) (hn:bM ops Bs ops.toList 0=true) {M j:Nat} {o:Oper} (ho:ops[j]? =some o)
 (closed:∀ j b,j<ops.size→Nat.testBit M j=true→Nat.testBit (Bs.getD j 0) b=true→Nat.testBit M b=true) (hun:Nat.testBit M j=false)
 (hre:∀ b,Nat.testBit (Bs.getD j 0) b=true→Nat.testBit M b=true) {rO:TV} (htm:∀ t,rO.get t=Wn ops D M O3 t ops.size) {v:Value} (hv:(D (j+1)).tm=iT sz (D j).tm o.dst v):
 ∀ t,(iT sz rO o.dst v).get t=Wn ops D (M|||2^j) O3 t ops.size:=by
 intro t
 have hj:j<ops.size:=(Array.getElem?_eq_some_iff.1 ho).1
 by_cases hd:o.dst=some t
 ·have hnm:=yN (t:=t) c h0 hn ho closed hun hre (GK hd)
  have hb:∀ i o',ops[i]? =some o'→o'.dst=some t→bound Bs i j=true:=by
   intro i o' hi hd'
   have:=DT ops Bs ops.toList 0 hn j o (by rw [Array.getElem?_toList];exact ho) t (GK hd) i o' hi hd'
   rw [Nat.zero_add] at this;exact this
  rw [DW (j:=j+1) ops.size (by omega)]
  ·simp only [Wn]
   rw [if_pos ⟨kH _ _,by rw [ho];exact hd⟩,hv,hd]
   unfold iT
   simp only
   cases Nat.blt t sz with
   |false=>rw [cond_false,cond_false,htm,hnm]
   |true=>rw [cond_true,cond_true,TV.fT,TV.fT,if_pos rfl,if_pos rfl]
  ·intro i o' h1 h2 h3 h4
   rw [dG _ (by omega)]
   rcases uA (hb i o' h3 h4) with e|⟨e,_⟩|⟨_,e⟩
   ·omega
   ·omega
   ·cases hc:Nat.testBit M i with
    |false=>rfl
    |true=>have:=closed i j (by omega) hc e;rw [hun] at this;cases this
 ·rw [←Xd (M:=M) ops.size]
  ·rw [←htm]
   unfold iT
   cases hdst:o.dst with
   |none=>rfl
   |some x=>
    have:t≠x:=fun e=>hd (by rw [hdst,e])
    simp only
    cases Nat.blt x sz with
    |false=>rfl
    |true=>rw [cond_true,TV.fT,if_neg this]
  ·intro i o' hi h1 h2
   by_cases e:i=j
   ·subst e;rw [ho] at h1;cases h1;exact absurd h2 hd
   ·rw [dG _ e]
end
section
variable {ih:Task→Option (List Out)} {rd:Option Nat} {sz:Nat} {ops:Array Oper} {Bs:Array Nat} {bq:Nat} {d dF:Dr} {D:Nat→Dr} {T:Nat→List eG}
structure Pf where
 K:Nat→H
 E:Nat→Prop
structure Inv (G sz:Nat) (ops:Array Oper) (Bs:Array Nat) (bq:Nat) (d dF:Dr) (D:Nat→Dr) (L:Pf) (h00:H) (ρ0:Ren) (w0:World) (listed:Array Bool) (M p:Nat) (rO:TV) (a:Act) (w:World) (ρ:Ren):Prop where
 size:listed.size=ops.size
 bits:∀ i,i<ops.size→listed.getD i true=Nat.testBit M i
 closed:∀ j b,j<ops.size→Nat.testBit M j=true→Nat.testBit (Bs.getD j 0) b=true→Nat.testBit M b=true
 ple:p≤ops.size
 stage:∀ e,e<ops.size→L.E e→(Nat.testBit M e=true↔e<p)
 tr:TR (L.K p).nx ρ rO a.tmps
 tm:∀ t,rO.get t=Wn ops D M d.tm t ops.size
 hr:HR G (aI M (L.K p) dF.as) ρ w
 df:L2 (ru (L.K p).nx ρ) (D p).df a.defers
 asz:a.tmps.size=sz
 fresh:∀ i,i<ops.size→Nat.testBit M i=false→(ρ (bq+i)).2.2<(ρ (bq+i)).2.1
 trr:Tr G h00 (aI M (L.K p) dF.as) ρ0 ρ w0 w
 nx:bq+ops.size≤(L.K p).nx
 bq:h00.nx≤bq
omit [aa] in
theorem DY {listed:Array Bool} {M j:Nat} (hs:listed.size=ops.size) (hj:j<ops.size) (hb:∀ i,i<ops.size→listed.getD i true=Nat.testBit M i):
 ∀ i,i<ops.size→(listed.setIfInBounds j true).getD i true=Nat.testBit (M|||2^j) i:=by
 intro i hi
 by_cases e:i=j
 ·subst e
  rw [kH]
  simp [hs,hj]
 ·rw [dG _ e,←hb i hi]
  have e':¬(j=i):=fun x=>e x.symm
  simp [e']
omit [aa] in
theorem mV {B B':Nat}:∀ {as:List (Nat×Nat×aJ)} {i:Nat},(∀ k o,(k,i,o)∈as→Nat.testBit B k=Nat.testBit B' k)→fV B as i=fV B' as i:=by
 intro as
 induction as with
 |nil=>intro i _;rfl
 |cons x r ih2=>
  intro i h
  obtain ⟨k,id,o⟩:=x
  simp only [fV]
  rw [ih2 (fun k o hm=>h k o (List.mem_cons_of_mem _ hm))]
  by_cases e:i=id
  ·subst e;rw [h k o List.mem_cons_self]
  ·simp only [e,and_false,if_false]
theorem Inv.next {Bc:Array Nat} {L L':Pf} (c:bV P G ih rd sz ops Bc bq 0 ops.toList d dF D T) (hN:dV P) (hI:IH P G ih) (hn:bM ops Bs ops.toList 0=true) {h00:H} {ρ0:Ren} {w0:World} {listed:Array Bool} {M p:Nat} {rO:TV}
 {b:Frame} {a:Act} {k:List Item} {cs:List Frame} {w:World} {ρ:Ren} (I:Inv G sz ops Bs bq d dF D L h00 ρ0 w0 listed M p rO a w ρ) {j:Nat} {rest:List Nat} {o:Oper} (ho:ops[j]? =some o) (hun:Nat.testBit M j=false)
 (hre:∀ b,Nat.testBit (Bs.getD j 0) b=true→Nat.testBit M b=true) (hw:dw ops (D j).tm o=some true) {hs:H} (hsub:Sub hs (aI M (L.K p) dF.as)) {r:V3}
 (hrun:dZ P G ih rd o.op (D j).tm (D p).df hs=some [r]) (hv:(D (j+1)).tm=iT sz (D j).tm o.dst r.v) {p':Nat} (hp:p'≤ops.size) (hst:∀ e,e<ops.size→L'.E e→(Nat.testBit (M|||2^j) e=true↔e<p'))
 (hdf:(D p').df=r.df) (f1:(L'.K p').nx=r.h.nx) (f2:(L'.K p').mw=r.h.mw) (f3:∀ i x,r.h.hp.get i=some x→(aI (M|||2^j) (L'.K p') dF.as).hp.get i=some x)
 (f4:∀ i,r.h.hp.get i=none→hs.hp.get i=none→(aI (M|||2^j) (L'.K p') dF.as).hp.get i=(aI M (L.K p) dF.as).hp.get i)
 (f5:∀ i,r.h.hp.get i=none→hs.hp.get i≠none→(aI (M|||2^j) (L'.K p') dF.as).hp.get i=none) (hrd:um h00.nx ρ0 rd b) (hk:jW b.kind cs):
 ∃ a' w' ρ' tm',Inv G sz ops Bs bq d dF D L' h00 ρ0 w0 (listed.setIfInBounds j true) (M|||2^j) p' tm' a' w' ρ'∧
   Steps P (lone (b.atR a (.inRegion ops (j::rest)::k)) cs w) (lone (b.atR a' (.inRegion ops rest::k)) cs w'):=by
 have hj:j<ops.size:=(Array.getElem?_eq_some_iff.1 ho).1
 obtain ⟨n1,m1,_⟩:=aK M (L.K p) dF.as
 obtain ⟨n2,m2,_⟩:=aK (M|||2^j) (L'.K p') dF.as
 have Xf:hs.nx=(L.K p).nx:=by rw [←n1];exact hsub.nx.symm
 have xg:∀ t∈jH ops o,rO.get t=(D j).tm.get t:=fun t ht=>(I.tm t).trans (yN c rfl hn ho I.closed hun hre ht)
 have aez:dZ P G ih rd o.op rO (D p).df hs=some [r]:=by rw [IV (uu xg)];exact hrun
 have hw1:dw ops rO o=some true:=by rw [pG xg];exact hw
 have hwant:=qw I.tr hw1
 have hr1:=I.hr.sub hsub
 have ahr:um hs.nx ρ rd b:=by rw [Xf,←n1];exact hrd.mono I.trr.nx I.trr.agree
 obtain ⟨r',hr',v',d',ρ',w',g1,g2,g3,g4,g5⟩:=GI (P:=P) (b:=b) (a:=a) (k:=k) (cs:=cs) (rest:=rest) hN hI aez ho hwant hr1 (by rw [Xf];exact I.tr) (by rw [Xf];exact I.df) ahr hk
 obtain rfl:r'=r:=by
  cases hr' with
  |head=>rfl
  |tail _ h=>cases h
 obtain ⟨q1,q2⟩:=O9 I.hr hsub g3 g4 (by rw [n2,f1]) (by rw [m2,f2]) f3 f4 f5
 have hle:(L.K p).nx≤(L'.K p').nx:=by rw [←n1,←n2];exact q2.nx
 refine ⟨{a with defers:=d'}.put o.dst v',w',ρ',iT sz rO o.dst r'.v,⟨?_,DY I.size hj I.bits,?_,hp,hst,?_,?_,q1,?_,?_,?_,I.trr.trans q2,Nat.le_trans I.nx hle,I.bq⟩,g5⟩
 ·rw [Array.size_setIfInBounds];exact I.size
 ·intro i x hi hx hb
  by_cases e:i=j
  ·subst e;exact je (hre x hb)
  ·rw [dG _ e] at hx;exact je (I.closed i x hi hx hb)
 ·refine vF (a:={a with defers:=d'}) ?_ I.asz (by rw [f1];exact g1) o.dst
  exact I.tr.mono hle (by have:=g4.agree;rw [Xf] at this;exact this)
 ·exact Ah c rfl hn ho I.closed hun hre I.tm hv
 ·rw [put_defers,hdf,f1];exact g2
 ·rw [uo];exact I.asz
 ·intro i hi hb
  have hne:i≠j:=fun e=>by subst e;rw [kH] at hb;cases hb
  rw [dG _ hne] at hb
  have:=g4.keep (bq+i) (by rw [Xf];have:=I.nx;omega)
  rw [this];exact I.fresh i hi hb
end
end Go.CE
namespace Go.CE
open Go Go.RowKit
variable [aa]
variable {P:Program} {G:Nat}
section
variable {ih:Task→Option (List Out)} {rd:Option Nat} {sz:Nat} {ops:Array Oper} {bq:Nat} {d dF:Dr} {D:Nat→Dr} {T:Nat→List eG}
def rP (D:Nat→Dr):Pf:=⟨fun i=>(D i).h,Eff D⟩
structure Ctx (P:Program) (G:Nat) (ih:Task→Option (List Out)) (rd:Option Nat) (sz:Nat) (ops:Array Oper) (Bc:Array Nat) (bq:Nat) (d dF:Dr) (D:Nat→Dr) (T:Nat→List eG):Prop where
 chain:bV P G ih rd sz ops Bc bq 0 ops.toList d dF D T
 count:dV P
 calls:IH P G ih
 Xg:eH ops.toList 0=true
 names:bM ops (Region.before ops) ops.toList 0=true
 as0:d.as=[]
 es0:d.es=[]
 rs0:d.rs=[]
 bound:G≤bq
variable {Bc:Array Nat} (X:Ctx P G ih rd sz ops Bc bq d dF D T)
include X
theorem Ctx.T9:(∀ k id o,(k,id,o)∈dF.as→k<ops.size∧id=bq+k)∧Uniq dF.as:=by
 have:=X.chain.as X.as0 ops.size (Nat.le_refl _)
 have e:D ops.size=dF:=by rw [←X.chain.last];simp
 rw [e] at this;exact this
theorem Ctx.yO {j:Nat} (hm:∀ b,(j,bq+j,b)∉dF.as) (M i:Nat):fV (M|||2^j) dF.as i=fV M dF.as i:=by
 refine mV (fun k o hk=>?_)
 by_cases e:k=j
 ·subst e;have h2:=(X.T9.1 _ _ _ hk).2;subst h2;exact absurd hk (hm o)
 ·exact dG _ e
theorem Ctx.yP {j:Nat} {o:Oper} (ho:ops[j]? =some o) (hd:(D (j+1)).as=(D j).as):∀ b,(j,bq+j,b)∉dF.as:=by
 intro b hb
 have hj:j<ops.size:=(Array.getElem?_eq_some_iff.1 ho).1
 have key:∀ i,j+1≤i→i≤ops.size→(j,bq+j,b)∈(D i).as→(j,bq+j,b)∈(D j).as:=by
  intro i
  induction i with
  |zero=>intro h1;omega
  |succ i ih2=>
   intro h1 h2 h3
   by_cases e:i=j
   ·subst e;rw [hd] at h3;exact h3
   ·obtain ⟨o',ho'⟩:=mK (ops:=ops) (i:=i) (by omega)
    have hk:(j,bq+j,b)∈(D i).as:=by
     rcases dx (X.chain.step' ho') with h|⟨v,h⟩|⟨v,b',h⟩|⟨r,h⟩<;>rw [h.eq] at h3
     ·exact h3
     ·exact h3
     ·cases h3 with
      |head=>exact absurd rfl e
      |tail _ h3=>exact h3
     ·exact h3
    exact ih2 (by omega) (by omega) hk
 have e:D ops.size=dF:=by rw [←X.chain.last];simp
 have h1:=key ops.size (by omega) (Nat.le_refl _) (by rw [e];exact hb)
 have:=(X.chain.as X.as0 j (by omega)).1 _ _ _ h1
 omega
theorem Ctx.skip {L:Pf} {h00:H} {ρ0:Ren} {w0:World} {listed:Array Bool} {M p:Nat} {rO:TV} {b:Frame} {a:Act} {k:List Item} {cs:List Frame} {w:World} {ρ:Ren}
 (I:Inv G sz ops (Region.before ops) bq d dF D L h00 ρ0 w0 listed M p rO a w ρ) {j:Nat} {rest:List Nat} {o:Oper} (ho:ops[j]? =some o) (hun:Nat.testBit M j=false)
 (hre:∀ b,Nat.testBit ((Region.before ops).getD j 0) b=true→Nat.testBit M b=true) (hne:¬L.E j) (hs:LM P sz ops j o (D j) (D (j+1))):
 ∃ a' w' ρ' tm',Inv G sz ops (Region.before ops) bq d dF D L h00 ρ0 w0 (listed.setIfInBounds j true) (M|||2^j) p tm' a' w' ρ'∧
   Steps P (lone (b.atR a (.inRegion ops (j::rest)::k)) cs w) (lone (b.atR a' (.inRegion ops rest::k)) cs w'):=by
 have hj:j<ops.size:=(Array.getElem?_eq_some_iff.1 ho).1
 have xg:∀ t∈jH ops o,rO.get t=(D j).tm.get t:=fun t ht=>(I.tm t).trans (yN X.chain rfl X.names ho I.closed hun hre ht)
 have hw1:dw ops rO o=some false:=by rw [pG xg];exact hs.wanted
 have hwant:=qw I.tr hw1
 have hst:=stepR_op_skip (P:=P) (b:=b) (a:=a) (k:=k) (cs:=cs) (w:=w) (ops:=ops) (i:=j) (rest:=rest) (by rw [ho];simpa using hwant)
 simp only [ho,Option.bind_some] at hst
 obtain ⟨n1,m1,s1⟩:=aK M (L.K p) dF.as
 obtain ⟨n2,m2,s2⟩:=aK (M|||2^j) (L.K p) dF.as
 have hsame:Same (aI M (L.K p) dF.as) (aI (M|||2^j) (L.K p) dF.as):=by
  refine ⟨by rw [n1,n2],by rw [m1,m2],fun i=>?_⟩
  rw [s1,s2,X.yO (X.yP ho (by rw [hs.eq]))]
 refine ⟨a.put o.dst undef,w,ρ,iT sz rO o.dst undef,⟨?_,DY I.size hj I.bits,?_,I.ple,?_,?_,?_,I.hr.congr hsame,?_,?_,?_,I.trr.congr hsame,I.nx,I.bq⟩,Steps.one hst⟩
 ·rw [Array.size_setIfInBounds];exact I.size
 ·intro i x hi hx hb
  by_cases e:i=j
  ·subst e;exact je (hre x hb)
  ·rw [dG _ e] at hx;exact je (I.closed i x hi hx hb)
 ·intro e he hE
  rw [dG _ (fun h:e=j=>hne (by rw [←h];exact hE))];exact I.stage e he hE
 ·exact vF I.tr I.asz VR.undef o.dst
 ·exact Ah X.chain rfl X.names ho I.closed hun hre I.tm (by rw [hs.eq])
 ·rw [put_defers];exact I.df
 ·rw [uo];exact I.asz
 ·intro i hi hb
  have hne:i≠j:=fun e=>by subst e;rw [kH] at hb;cases hb
  rw [dG _ hne] at hb
  exact I.fresh i hi hb
theorem Ctx.Rq (recs:gF P G (Region.before ops) dF.as (aP dF.rs []) d.h dF.rs=true) {M p j:Nat} {o:Oper} (ho:ops[j]? =some o) (hun:Nat.testBit M j=false) (hre:∀ b,Nat.testBit ((Region.before ops).getD j 0) b=true→Nat.testBit M b=true)
 (closed:∀ j b,j<ops.size→Nat.testBit M j=true→Nat.testBit ((Region.before ops).getD j 0) b=true→Nat.testBit M b=true)
 (hp:p≤ops.size) (stage:∀ e,e<ops.size→Eff D e→(Nat.testBit M e=true↔e<p)) {v:Value} (hs:vG P G sz ops Bc j o v (D j) (D (j+1))):
 mq P G (D j).tm (aI ((Region.before ops).getD j 0) (D p).h dF.as) o.op=some v:=by
 have hj:j<ops.size:=(Array.getElem?_eq_some_iff.1 ho).1
 have hrec:(⟨j,o,(D j).tm,.reads,v⟩:Rec)∈dF.rs:=X.chain.recs (j+1) (by simp only [Array.length_toList];omega) _ (by rw [hs.eq];exact List.mem_cons_self)
 have h0:=Pb recs _ hrec rfl
 rcases h0 with h0|h0
 ·obtain ⟨h',hr'⟩:=hs.run
  rw [←hr'];exact DU h0 _ _ _
 rw [X.chain.stages,X.rs0] at h0
 simp only [aP,List.nil_append] at h0
 have walk:∀ i,i≤p→fG P G (Region.before ops) ((Region.before ops).getD j 0) dF.as ⟨j,o,(D j).tm,.reads,v⟩ (T i) (D i).h=true:=by
  intro i
  induction i with
  |zero=>intro _;rw [X.chain.first];exact h0
  |succ i ih2=>
   intro hi
   have h1:=ih2 (by omega)
   obtain ⟨o',ho'⟩:=mK (ops:=ops) (i:=i) (by omega)
   by_cases hE:Eff D i
   ·rw [X.chain.act ho' hE] at h1
    simp only [fG,Bool.and_eq_true,Bool.or_eq_true] at h1
    rcases h1.2 with h2|h2
    ·have:=closed i j (by omega) ((stage i (by omega) hE).2 (by omega)) h2
     rw [hun] at this;cases this
    ·exact h2
   ·obtain ⟨_,h2,_,h4⟩:=X.chain.quiet ho' hE
    rw [h2,←h4];exact h1
 have rest:∀ i,i≤ops.size→p≤i→∀ e∈T i,Nat.testBit ((Region.before ops).getD j 0) e.i=false:=by
  intro i hi hpi
  have hk:∀ n i,n=ops.size-i→i≤ops.size→p≤i→∀ e∈T i,Nat.testBit ((Region.before ops).getD j 0) e.i=false:=by
   intro n
   induction n with
   |zero=>
    intro i hn hi _ e he
    obtain rfl:i=ops.size:=by omega
    have:=X.chain.done
    simp only [Array.length_toList] at this
    rw [this] at he;cases he
   |succ n ih2=>
    intro i hn hi hpi e he
    obtain ⟨o',ho'⟩:=mK (ops:=ops) (i:=i) (by omega)
    by_cases hE:Eff D i
    ·rw [X.chain.act ho' hE] at he
     cases he with
     |head=>
      cases hc:Nat.testBit ((Region.before ops).getD j 0) i with
      |false=>rfl
      |true=>have:=(stage i (by omega) hE).1 (hre i hc);omega
     |tail _ he=>exact ih2 (i+1) (by omega) (by omega) (by omega) e he
    ·rw [(X.chain.quiet ho' hE).2.2.2] at he
     exact ih2 (i+1) (by omega) (by omega) (by omega) e he
  exact hk _ i rfl hi hpi
 have hw:=walk p (Nat.le_refl _)
 have hso:oQ P G ((Region.before ops).getD j 0) (D p).h dF.as ⟨j,o,(D j).tm,.reads,v⟩ (T p)=true:=by
  cases hT:T p with
  |nil=>rw [hT] at hw;simpa [fG] using hw
  |cons e r=>rw [hT] at hw;simp only [fG,Bool.and_eq_true] at hw;exact hw.1
 unfold oQ at hso
 rw [Bool.or_eq_true] at hso
 rcases hso with h|h
 ·obtain ⟨e,he,h2⟩:=List.any_eq_true.1 h
  have:=rest p hp (Nat.le_refl _) e he
  rw [this] at h2;cases h2
 ·generalize hx:mq P G (D j).tm (aI ((Region.before ops).getD j 0) (D p).h dF.as) o.op=x at h
  cases x with
  |none=>simp [allEq] at h
  |some y=>simp only [allEq] at h;rw [Ad 8 v y h]
theorem Ctx.reads {L:Pf} {h00:H} {ρ0:Ren} {w0:World} {listed:Array Bool} {M p:Nat} {rO:TV} {b:Frame} {a:Act} {k:List Item} {cs:List Frame} {w:World} {ρ:Ren}
 (I:Inv G sz ops (Region.before ops) bq d dF D L h00 ρ0 w0 listed M p rO a w ρ) {j:Nat} {rest:List Nat} {o:Oper} (ho:ops[j]? =some o) (hun:Nat.testBit M j=false)
 (hre:∀ b,Nat.testBit ((Region.before ops).getD j 0) b=true→Nat.testBit M b=true) {v:Value} (hne:¬L.E j) (hs:vG P G sz ops Bc j o v (D j) (D (j+1)))
 (hread:mq P G (D j).tm (aI ((Region.before ops).getD j 0) (L.K p) dF.as) o.op=some v)
 (hrd:um h00.nx ρ0 rd b) (hk:jW b.kind cs):
 ∃ a' w' ρ' tm',Inv G sz ops (Region.before ops) bq d dF D L h00 ρ0 w0 (listed.setIfInBounds j true) (M|||2^j) p tm' a' w' ρ'∧
   Steps P (lone (b.atR a (.inRegion ops (j::rest)::k)) cs w) (lone (b.atR a' (.inRegion ops rest::k)) cs w'):=by
 obtain ⟨n1,m1,s1⟩:=aK M (L.K p) dF.as
 obtain ⟨n2,m2,s2⟩:=aK (M|||2^j) (L.K p) dF.as
 obtain ⟨n3,m3,s3⟩:=aK ((Region.before ops).getD j 0) (L.K p) dF.as
 have hsame:∀ i,(aI (M|||2^j) (L.K p) dF.as).hp.get i=(aI M (L.K p) dF.as).hp.get i:=fun i=>by
  rw [s1,s2,X.yO (X.yP ho (by rw [hs.eq]))]
 have hsub:Sub (aI ((Region.before ops).getD j 0) (L.K p) dF.as) (aI M (L.K p) dF.as):=qx X.T9.2 (fun _ h=>h) hre _
 have hrun:dZ P G ih rd o.op (D j).tm (D p).df (aI ((Region.before ops).getD j 0) (L.K p) dF.as)=some [⟨v,(D p).df,aI ((Region.before ops).getD j 0) (L.K p) dF.as⟩]:=by
  unfold dZ
  rw [hs.cls]
  simp only
  rw [hread]
 obtain ⟨a',w',ρ',tm',h1,h2⟩:=I.next (L':=L) X.chain X.count X.calls X.names ho hun hre hs.wanted hsub hrun (by rw [hs.eq]) (p':=p) I.ple
  (fun e he hE=>by rw [dG _ (fun h:e=j=>hne (by rw [←h];exact hE))];exact I.stage e he hE) rfl n3.symm m3.symm
  (fun i x hx=>by rw [hsame];exact hsub.get i x hx) (fun i _ _=>hsame i) (fun i h1 h2=>absurd h1 h2) hrd hk
 exact ⟨a',w',ρ',tm',h1,h2⟩
theorem Ctx.acts {h00:H} {ρ0:Ren} {w0:World} {listed:Array Bool} {M p:Nat} {rO:TV} {b:Frame} {a:Act} {k:List Item} {cs:List Frame} {w:World} {ρ:Ren}
 (I:Inv G sz ops (Region.before ops) bq d dF D (rP D) h00 ρ0 w0 listed M p rO a w ρ) {j:Nat} {rest:List Nat} {o:Oper} (ho:ops[j]? =some o) (hun:Nat.testBit M j=false)
 (hre:∀ b,Nat.testBit ((Region.before ops).getD j 0) b=true→Nat.testBit M b=true) {r:V3} (hs:uw P G ih rd sz ops Bc bq j o r (D j) (D (j+1))) (hB:Bc.getD j 0=(Region.before ops).getD j 0)
 (hrd:um h00.nx ρ0 rd b) (hk:jW b.kind cs):
 ∃ a' w' ρ' M' p' tm',Inv G sz ops (Region.before ops) bq d dF D (rP D) h00 ρ0 w0 (listed.setIfInBounds j true) M' p' tm' a' w' ρ'∧
   Steps P (lone (b.atR a (.inRegion ops (j::rest)::k)) cs w) (lone (b.atR a' (.inRegion ops rest::k)) cs w'):=by
 have hj:j<ops.size:=(Array.getElem?_eq_some_iff.1 ho).1
 have hE:Eff D j:=by unfold Eff;rw [hs.eq]
 have hes:=hs.es
 have hrun:=hs.run
 have hkeep:=hs.keep
 rw [hB] at hes hrun hkeep
 have hpj:p≤j:=by
  have:=(not_congr (I.stage j hj hE)).1 (by rw [hun];simp);omega
 have yQ:∀ e,e<j→Eff D e→e<p:=by
  intro e he hEe
  have:=hes e ((X.chain.es X.es0 j (by omega) e).2 ⟨he,hEe⟩)
  exact (I.stage e (by omega) hEe).1 (hre e this)
 obtain ⟨e1,e2⟩:=X.chain.still hpj (by omega) (fun e h1 h2 h3=>by have:=yQ e h2 h3;omega)
 have aam:=hs.eq
 have hh:(D (j+1)).h=r.h:=by rw [aam]
 have Bu:∀ x∈(D j).as,x∈dF.as:=X.chain.made j (by simp;omega)
 obtain ⟨n1,m1,s1⟩:=aK M (D p).h dF.as
 obtain ⟨n2,m2,s2⟩:=aK (M|||2^j) (D (j+1)).h dF.as
 obtain ⟨n3,m3,s3⟩:=aK ((Region.before ops).getD j 0) (D p).h (D j).as
 have hsub:Sub (aI ((Region.before ops).getD j 0) (D p).h (D j).as) (aI M (D p).h dF.as):=qx X.T9.2 Bu hre _
 have hsa:=X.yO (X.yP ho (by rw [aam]))
 obtain ⟨a',w',ρ',tm',h1,h2⟩:=I.next (L':=rP D) X.chain X.count X.calls X.names ho hun hre hs.wanted hsub (by rw [←e1,←e2];exact hrun) (by rw [aam]) (p':=j+1) (by omega)
  (fun e he hEe=>by
    by_cases h:e=j
    ·subst h;rw [kH];exact ⟨fun _=>by omega,fun _=>rfl⟩
    ·rw [dG _ h]
     constructor
     ·intro hb;have:=(I.stage e he hEe).1 hb;omega
     ·intro hl;exact (I.stage e he hEe).2 (yQ e (by omega) hEe))
  (by rw [aam]) (by show (D (j+1)).h.nx=_;rw [hh]) (by show (D (j+1)).h.mw=_;rw [hh])
  (fun i x hx=>by show (aI (M|||2^j) (D (j+1)).h dF.as).hp.get i=_;rw [s2,hh,hx];rfl)
  (fun i hx hy=>by
    show (aI (M|||2^j) (D (j+1)).h dF.as).hp.get i=(aI M (D p).h dF.as).hp.get i
    rw [s2,hh,hx,Option.none_or,hsa,s1]
    have:(D p).h.hp.get i=none:=by
     rw [s3] at hy
     cases hz:(D p).h.hp.get i with
     |none=>rfl
     |some z=>rw [hz] at hy;cases hy
    rw [this,Option.none_or])
  (fun i hx hy=>by
    show (aI (M|||2^j) (D (j+1)).h dF.as).hp.get i=_
    rw [s2,hh,hx,Option.none_or]
    cases hf:fV (M|||2^j) dF.as i with
    |none=>rfl
    |some y=>
     obtain ⟨q,hq,_⟩:=om hf
     obtain ⟨q1,q2⟩:=X.T9.1 _ _ _ hq
     subst q2
     rw [Bool.or_eq_true] at hkeep
     rcases hkeep with hkeep|hkeep
     ·exact absurd hx (LU hkeep hrun _ (by rw [e1];exact hy))
     ·have:=LQ hkeep q q1 (by rw [e1];exact hy)
      exact absurd hx this) hrd hk
 exact ⟨a',w',ρ',_,_,tm',h1,h2⟩
theorem Ctx.makes {L:Pf} {h00:H} {ρ0:Ren} {w0:World} {listed:Array Bool} {M p:Nat} {rO:TV} {b:Frame} {a:Act} {k:List Item} {cs:List Frame} {w:World} {ρ:Ren}
 (I:Inv G sz ops (Region.before ops) bq d dF D L h00 ρ0 w0 listed M p rO a w ρ) {j:Nat} {rest:List Nat} {o:Oper} (ho:ops[j]? =some o) (hun:Nat.testBit M j=false)
 (hre:∀ b,Nat.testBit ((Region.before ops).getD j 0) b=true→Nat.testBit M b=true) {v:Value} {ob:aJ} (hne:¬L.E j) (hs:GL P G sz ops bq j o v ob (D j) (D (j+1))):
 ∃ a' w' ρ' tm',Inv G sz ops (Region.before ops) bq d dF D L h00 ρ0 w0 (listed.setIfInBounds j true) (M|||2^j) p tm' a' w' ρ'∧
   Steps P (lone (b.atR a (.inRegion ops (j::rest)::k)) cs w) (lone (b.atR a' (.inRegion ops rest::k)) cs w'):=by
 have hj:j<ops.size:=(Array.getElem?_eq_some_iff.1 ho).1
 have xg:∀ t∈jH ops o,rO.get t=(D j).tm.get t:=fun t ht=>(I.tm t).trans (yN X.chain rfl X.names ho I.closed hun hre ht)
 have hw1:dw ops rO o=some true:=by rw [pG xg];exact hs.wanted
 have hwant:=qw I.tr hw1
 have hrun:zO P G rO (bq+j) o.op=some (v,ob):=by rw [DR (uu xg)];exact hs.run
 obtain ⟨n1,m1,s1⟩:=aK M (L.K p) dF.as
 obtain ⟨n2,m2,s2⟩:=aK (M|||2^j) (L.K p) dF.as
 obtain ⟨v',Rk,z,g1,g2⟩:=Rl (P:=P) (w:=w) I.hr (by rw [n1];exact I.tr) o hrun
 have hfr:=I.fresh j hj hun
 have hid:bq+j<(aI M (L.K p) dF.as).nx:=by rw [n1];have:=I.nx;omega
 have Xh:¬In (aI M (L.K p) dF.as).nx ρ (bq+j):=fun h=>by have:=h.2;omega
 have hag:Agree (aI M (L.K p) dF.as).nx ρ (upd ρ (bq+j) (w.heap.size,0,z)):=fun i hi=>aS _ (fun e=>Xh (e▸hi))
 obtain ⟨g3,g4⟩:=g2 _ (upd ρ (bq+j) (w.heap.size,0,z)) hid (Nat.le_refl _) hag (upd_same _ _ _)
 have hmem:(j,bq+j,ob)∈dF.as:=X.chain.made (j+1) (by simp only [Array.length_toList];omega) _ (by rw [hs.eq];exact List.mem_cons_self)
 have hnone:(L.K p).hp.get (bq+j)=none:=by
  cases hc:(L.K p).hp.get (bq+j) with
  |none=>rfl
  |some x=>exact absurd (I.hr.obj (bq+j) x (by rw [s1,hc];rfl)).1 Xh
 obtain ⟨q1,q2⟩:=aey (h':=aI (M|||2^j) (L.K p) dF.as) I.hr I.trr hid (by have:=X.bound;omega) (by have:=I.bq;omega) Xh g4 (by rw [n2,n1]) (by rw [m2,m1]) (fun i=>by
  rw [s2]
  by_cases e:i=bq+j
  ·subst e;rw [if_pos rfl,hnone,Option.none_or];exact Ag X.T9.2 hmem (kH _ _)
  ·rw [if_neg e,s1]
   congr 1
   refine mV (fun k' o' hk=>dG _ (fun e'=>?_))
   subst e';exact e (X.T9.1 _ _ _ hk).2)
 have hse:o.semAt b.roundOf a.eval=execOp (ak a.tmps) o:=by
  rw [←oh]
  refine Oper.semAt_eq _ _ _ (fun c hc=>?_)
  have:=hs.cls;rw [hc] at this;cases this
 have hag':Agree (L.K p).nx ρ (upd ρ (bq+j) (w.heap.size,0,z)):=by rw [←n1];exact hag
 have hdf:=q2
 refine ⟨a.put o.dst v',w.alloc Rk,upd ρ (bq+j) (w.heap.size,0,z),iT sz rO o.dst v,⟨?_,DY I.size hj I.bits,?_,I.ple,?_,?_,?_,q1,?_,?_,?_,q2,I.nx,I.bq⟩,
  Steps.one (qp ho hwant (by rw [hse];exact g1) (.inl rfl))⟩
 ·rw [Array.size_setIfInBounds];exact I.size
 ·intro i x hi hx hb
  by_cases e:i=j
  ·subst e;exact je (hre x hb)
  ·rw [dG _ e] at hx;exact je (I.closed i x hi hx hb)
 ·intro e he hE
  rw [dG _ (fun h:e=j=>hne (by rw [←h];exact hE))];exact I.stage e he hE
 ·exact vF (I.tr.mono (Nat.le_refl _) hag') I.asz (by rw [←n1];exact g3) o.dst
 ·exact Ah X.chain rfl X.names ho I.closed hun hre I.tm (by rw [hs.eq])
 ·rw [put_defers];exact I.df.mono fun _ _ r=>r.mono (Nat.le_refl _) hag'
 ·rw [uo];exact I.asz
 ·intro i hi hb
  have hne:i≠j:=fun e=>by subst e;rw [kH] at hb;cases hb
  rw [dG _ hne] at hb
  rw [aS _ (by omega)]
  exact I.fresh i hi hb
theorem Ctx.one (hB:Bc=Region.before ops) (recs:gF P G (Region.before ops) dF.as (aP dF.rs []) d.h dF.rs=true) {h00:H} {ρ0:Ren} {w0:World} {listed:Array Bool} {M p:Nat} {rO:TV} {b:Frame} {a:Act} {k:List Item} {cs:List Frame} {w:World} {ρ:Ren}
 (I:Inv G sz ops (Region.before ops) bq d dF D (rP D) h00 ρ0 w0 listed M p rO a w ρ) {j:Nat} {rest:List Nat} (hj:j∈Region.ready .any ops listed) (hrd:um h00.nx ρ0 rd b) (hk:jW b.kind cs):
 ∃ a' w' ρ' M' p' tm',Inv G sz ops (Region.before ops) bq d dF D (rP D) h00 ρ0 w0 (listed.setIfInBounds j true) M' p' tm' a' w' ρ'∧
   Steps P (lone (b.atR a (.inRegion ops (j::rest)::k)) cs w) (lone (b.atR a' (.inRegion ops rest::k)) cs w'):=by
 obtain ⟨h1,o,ho,h2⟩:=mem_ready.1 hj
 have hlt:j<ops.size:=(Array.getElem?_eq_some_iff.1 ho).1
 have hun:Nat.testBit M j=false:=by rw [←I.bits j hlt];exact h1
 have hre:∀ b,Nat.testBit ((Region.before ops).getD j 0) b=true→Nat.testBit M b=true:=by
  intro x hx
  obtain ⟨e,he,h3,h4,h5⟩:=Rp X.Xg ho hx
  have h6:=h2 e he h3
  have h7:Nat.testBit M e.on=true:=by
   rw [←I.bits e.on (by omega)]
   have:e.on<listed.size:=by rw [I.size];omega
   simp only [Array.getD,this,dite_true] at h6 ⊢
   exact h6
  rcases h5 with h5|h5
  ·rw [h5];exact h7
  ·exact I.closed e.on x (by omega) h7 h5
 rcases dx (X.chain.step' ho) with h|⟨v,h⟩|⟨v,ob,h⟩|⟨r,h⟩
 ·obtain ⟨a',w',ρ',tm',q1,q2⟩:=X.skip I ho hun hre (by show ¬Eff D j;unfold Eff;rw [h.eq];exact dz _ _) h
  exact ⟨a',w',ρ',_,_,tm',q1,q2⟩
 ·obtain ⟨a',w',ρ',tm',q1,q2⟩:=X.reads I ho hun hre (by show ¬Eff D j;unfold Eff;rw [h.eq];exact dz _ _) h (X.Rq recs ho hun hre I.closed I.ple I.stage h) hrd hk
  exact ⟨a',w',ρ',_,_,tm',q1,q2⟩
 ·obtain ⟨a',w',ρ',tm',q1,q2⟩:=X.makes I ho hun hre (by show ¬Eff D j;unfold Eff;rw [h.eq];exact dz _ _) h
  exact ⟨a',w',ρ',_,_,tm',q1,q2⟩
 ·exact X.acts I ho hun hre h (by rw [hB]) hrd hk
omit X in
omit [aa] in
theorem wH {listed:Array Bool} {n j:Nat} (hj:j<n) (hs:listed.size=n) (hu:listed.getD j true=false):
 ((List.range n).filter fun i=> !(listed.setIfInBounds j true).getD i true).length<((List.range n).filter fun i=> !listed.getD i true).length:=by
 have h1:((List.range n).filter fun i=> !(listed.setIfInBounds j true).getD i true)=((List.range n).filter fun i=> !listed.getD i true).filter (fun i=> !(i==j)):=by
  rw [List.filter_filter]
  refine List.filter_congr (fun i hi=>?_)
  by_cases e:i=j
  ·subst e
   simp [hs,hj]
  ·have e':¬(j=i):=fun x=>e x.symm
   simp [e,e']
 rw [h1]
 refine List.length_filter_lt_length_iff_exists.2 ⟨j,?_,by simp⟩
 rw [List.mem_filter]
 exact ⟨List.mem_range.2 hj,by rw [hu];rfl⟩
theorem Ctx.run (hB:Bc=Region.before ops) (recs:gF P G (Region.before ops) dF.as (aP dF.rs []) d.h dF.rs=true) {h00:H} {ρ0:Ren} {w0:World} {b:Frame} {k:List Item} {cs:List Frame} (hrd:um h00.nx ρ0 rd b) (hk:jW b.kind cs):∀ (fuel t:Nat) (listed:Array Bool) (M p:Nat) (rO:TV) (a:Act) (w:World) (ρ:Ren),
 Inv G sz ops (Region.before ops) bq d dF D (rP D) h00 ρ0 w0 listed M p rO a w ρ→((List.range ops.size).filter fun i=> !listed.getD i true).length≤fuel→
 ∃ listed' M' p' tm' a' w' ρ',Inv G sz ops (Region.before ops) bq d dF D (rP D) h00 ρ0 w0 listed' M' p' tm' a' w' ρ'∧(∀ i,i<ops.size→Nat.testBit M' i=true)∧
   Steps P (lone (b.atR a (.inRegion ops (Region.linearise.go .any ops fuel t listed [])::k)) cs w) (lone (b.atR a' k) cs w'):=by
 intro fuel
 induction fuel with
 |zero=>
  intro t listed M p rO a w ρ I hf
  have hnil:=List.length_eq_zero_iff.1 (Nat.le_zero.1 hf)
  refine ⟨listed,M,p,rO,a,w,ρ,I,fun i hi=>?_,Steps.one stepR_region_end⟩
  rw [←I.bits i hi]
  cases hc:listed.getD i true with
  |true=>rfl
  |false=>
   have:i∈(List.range ops.size).filter fun i=> !listed.getD i true:=by rw [List.mem_filter];exact ⟨List.mem_range.2 hi,by rw [hc];rfl⟩
   rw [hnil] at this;cases this
 |succ fuel ih2=>
  intro t listed M p rO a w ρ I hf
  simp only [Region.linearise.go]
  change ∃ listed' M' p' tm' a' w' ρ',Inv G sz ops (Region.before ops) bq d dF D (rP D) h00 ρ0 w0 listed' M' p' tm' a' w' ρ'∧(∀ i,i<ops.size→Nat.testBit M' i=true)∧
   Steps P (lone (b.atR a (.inRegion ops (match (Region.ready .any ops listed)[t%(Region.ready .any ops listed).length]? with
    |some i=>Region.linearise.go .any ops fuel (t/(Region.ready .any ops listed).length) (listed.setIfInBounds i true) [i]
    |none=>[].reverse)::k)) cs w) (lone (b.atR a' k) cs w')
  cases hi:(Region.ready .any ops listed)[t%(Region.ready .any ops listed).length]? with
  |none=>
   have hnil:Region.ready .any ops listed=[]:=by
    cases hr:Region.ready .any ops listed with
    |nil=>rfl
    |cons x xs=>
     rw [hr] at hi
     have hlt:t%(x::xs).length<(x::xs).length:=Nat.mod_lt _ (by simp)
     rw [List.getElem?_eq_getElem hlt] at hi;cases hi
   refine ⟨listed,M,p,rO,a,w,ρ,I,fun i=>?_,Steps.one stepR_region_end⟩
   induction i using Nat.strongRecOn with
   |ind i ih3=>
    intro hlt
    rw [←I.bits i hlt]
    cases hc:listed.getD i true with
    |true=>rfl
    |false=>
     obtain ⟨o,ho⟩:=mK (ops:=ops) hlt
     have:i∈Region.ready .any ops listed:=mem_ready.2 ⟨hc,o,ho,fun e he hb=>by
      have h4:=xe _ _ X.Xg i o (by rw [Array.getElem?_toList];exact ho) e he hb
      rw [Nat.zero_add] at h4
      have h5:=ih3 e.on h4 (by omega)
      rw [←I.bits e.on (by omega)] at h5
      have:e.on<listed.size:=by rw [I.size];omega
      simp only [Array.getD,this,dite_true] at h5 ⊢
      exact h5⟩
     rw [hnil] at this;cases this
  |some j=>
   have hmem:j∈Region.ready .any ops listed:=List.mem_of_getElem? hi
   simp only
   rw [linearise_go_acc,List.reverse_singleton,List.singleton_append]
   obtain ⟨a1,w1,ρ1,M1,p1,tm1,I1,s1⟩:=X.one hB recs (k:=k) (cs:=cs) I (rest:=Region.linearise.go .any ops fuel (t/(Region.ready .any ops listed).length) (listed.setIfInBounds j true) []) hmem hrd hk
   have hun:=(mem_ready.1 hmem).1
   obtain ⟨o,ho,_⟩:=(mem_ready.1 hmem).2
   have hj:j<ops.size:=(Array.getElem?_eq_some_iff.1 ho).1
   have hless:=wH hj I.size hun
   obtain ⟨l2,M2,p2,Z0,a2,w2,ρ2,I2,h2,s2⟩:=ih2 (t/(Region.ready .any ops listed).length) _ _ _ _ _ _ _ I1 (by omega)
   exact ⟨l2,M2,p2,Z0,a2,w2,ρ2,I2,h2,s1.trans s2⟩
end
theorem start {ih:Task→Option (List Out)} {rd:Option Nat} {ops:Array Oper} {st:St} {Bc:Array Nat} {dF:Dr} {D:Nat→Dr} {T:Nat→List eG}
 (X:Ctx P G ih rd st.sz ops Bc st.h.nx {tm:=st.tm,df:=st.df,h:={hp:=st.h.hp,nx:=st.h.nx+ops.size,mw:=st.h.mw},as:=[],es:=[],rs:=[]} dF D T) {ρ:Ren} {a:Act} {w:World} (hs:SR G st ρ a w):
 ∃ ρ1,Inv G st.sz ops (Region.before ops) st.h.nx {tm:=st.tm,df:=st.df,h:={hp:=st.h.hp,nx:=st.h.nx+ops.size,mw:=st.h.mw},as:=[],es:=[],rs:=[]} dF D (rP D) st.h ρ w (Array.replicate ops.size false) 0 0 st.tm a {w with drawn:=w.drawn+1} ρ1:=by
 have c:=X.chain
 let ρ1:Ren:=fun i=>if st.h.nx≤i then (0,1,0) else ρ i
 have hag:∀ i,i<st.h.nx→ρ1 i=ρ i:=fun i hi=>if_neg (by omega)
 have hAg:Agree st.h.nx ρ ρ1:=fun i hi=>hag i hi.1
 have hget:∀ i,(aI 0 (D 0).h dF.as).hp.get i=st.h.hp.get i:=by
  intro i
  rw [(aK 0 (D 0).h dF.as).2.2,c.first]
  have:fV 0 dF.as i=none:=by
   cases hf:fV 0 dF.as i with
   |none=>rfl
   |some y=>obtain ⟨q,_,hq⟩:=om hf;rw [Nat.zero_testBit] at hq;cases hq
  rw [this];simp
 have hnx:(aI 0 (D 0).h dF.as).nx=st.h.nx+ops.size:=by rw [(aK 0 (D 0).h dF.as).1,c.first]
 have hmw:(aI 0 (D 0).h dF.as).mw=st.h.mw:=by rw [(aK 0 (D 0).h dF.as).2.1,c.first]
 have acE:(D 0).h.nx=st.h.nx+ops.size:=by rw [c.first]
 have hr1:HR G (aI 0 (D 0).h dF.as) ρ1 {w with drawn:=w.drawn+1}:=by
  refine ⟨fun i o hi=>?_,fun i j hi hj e=>?_,fun g hg=>?_,by rw [hnx];have:=hs.hr.bound;omega⟩
  ·rw [hget] at hi
   obtain ⟨h1,ob,h2,h3⟩:=hs.hr.obj i o hi
   rw [hnx]
   exact ⟨h1.mono (by omega) hAg,ob,by rw [hAg i h1];exact h2,h3.mono h1 (by omega) hAg⟩
  ·rw [hget] at hi hj
   obtain ⟨x,hx⟩:=bW hi
   obtain ⟨y,hy⟩:=bW hj
   rw [hAg i (hs.hr.obj i x hx).1,hAg j (hs.hr.obj j y hy).1] at e
   exact hs.hr.inj i j hi hj e
  ·rw [hag g (by have:=hs.hr.bound;omega)];exact hs.hr.jI g hg
 have ht1:Tr G st.h (aI 0 (D 0).h dF.as) ρ ρ1 w {w with drawn:=w.drawn+1}:=by
  refine ⟨by rw [hnx];omega,hAg,rfl,rfl,rfl,Nat.le_refl _,fun _ _ _=>rfl,fun i hi hl=>?_,by rw [hmw];exact Nat.le_refl _,fun i _ _=>hget i,fun i _=>hget i,hag⟩
  rw [hget] at hl
  obtain ⟨x,hx⟩:=bW hl
  exact .inl ⟨i,hi,hl,by rw [hAg i (hs.hr.obj i x hx).1]⟩
 refine ⟨ρ1,?_⟩
 refine ⟨by simp,fun i hi=>by simp [hi],fun j x _ h=>(by rw [Nat.zero_testBit] at h;cases h),Nat.zero_le _,fun e _ _=>by rw [Nat.zero_testBit];simp,?_,fun t=>?_,hr1,?_,hs.sz,fun i _ _=>?_,ht1,by show st.h.nx+ops.size≤(D 0).h.nx;rw [acE];exact Nat.le_refl _,Nat.le_refl _⟩
 ·show TR (D 0).h.nx ρ1 st.tm a.tmps;rw [acE];exact hs.t.mono (by omega) hAg
 ·rw [DW (j:=0) ops.size (Nat.zero_le _) (fun i _ _ _ _ _=>Nat.zero_testBit i)];rfl
 ·show L2 (ru (D 0).h.nx ρ1) (D 0).df a.defers;rw [acE,c.first];exact hs.d.mono fun _ _ r=>r.mono (by omega) hAg
 ·show (ρ1 (st.h.nx+i)).2.2<(ρ1 (st.h.nx+i)).2.1
  have:ρ1 (st.h.nx+i)=(0,1,0):=if_pos (by omega)
  rw [this];exact Nat.zero_lt_one
def Xi (P:Program) (G:Nat) (run:Option Nat→Array Oper→St→Option St):Prop:=∀ rd ops st st',run rd ops st=some st'→
 ∀ b a k cs w ρ id,SR G st ρ a w→um st.h.nx ρ rd b→jW b.kind cs→
   ∃ a' ρ' w',SR G st' ρ' a' w'∧Tr G st.h st'.h ρ ρ' w w'∧Steps P (lone (b.atR a (.code (.region id ops true)::k)) cs w) (lone (b.atR a' k) cs w')
theorem acF (hm:P.follows .mixedOrders=true) (hN:dV P) {ih:Task→Option (List Out)} (hI:IH P G ih):Xi P G (mR P G ih):=by
 intro rd ops st st' hv b a k cs w ρ id hs hrd hk
 unfold mR at hv
 simp only at hv
 cases hb:(eH ops.toList 0&&bM ops (Region.before ops) ops.toList 0) with
 |false=>rw [hb] at hv;cases hv
 |true=>
  rw [hb,cond_true] at hv
  simp only [Bool.and_eq_true] at hb
  split at hv
  ·rename_i dF hdr
   cases hrec:gF P G (Region.before ops) dF.as (aP dF.rs []) {hp:=st.h.hp,nx:=st.h.nx+ops.size,mw:=st.h.mw} dF.rs with
   |false=>rw [hrec] at hv;cases hv
   |true=>
    rw [hrec,cond_true] at hv
    cases hv
    obtain ⟨D,T,c⟩:=LP _ _ _ _ hdr
    have X:Ctx P G ih rd st.sz ops (Region.before ops) st.h.nx _ dF D T:=⟨c,hN,hI,hb.1,hb.2,rfl,rfl,rfl,hs.hr.bound⟩
    obtain ⟨ρ1,I0⟩:=start X hs
    obtain ⟨l2,M2,p2,Z0,a2,w2,ρ2,I2,hall,s2⟩:=X.run rfl hrec (b:=b) (k:=k) (cs:=cs) hrd hk ops.size (w.tape w.drawn (.order b.fn id)) _ _ _ _ _ _ _ I0 (Nat.le_trans (List.length_filter_le _ _) (by simp))
    have hlast:D ops.size=dF:=by rw [←c.last];simp
    obtain ⟨e1,e2⟩:=c.still I2.ple (Nat.le_refl _) (fun e h1 h2 h3=>by have:=(I2.stage e h2 h3).1 (hall e h2);omega)
    rw [hlast] at e1 e2
    obtain ⟨n1,m1,g1⟩:=aK M2 (D p2).h dF.as
    obtain ⟨n2,m2,g2⟩:=aK (2^ops.size-1) dF.h dF.as
    have hsame:Same (aI M2 (D p2).h dF.as) (aI (2^ops.size-1) dF.h dF.as):=by
     refine ⟨by rw [n1,n2,e1],by rw [m1,m2,e1],fun i=>?_⟩
     rw [g1,g2,e1]
     congr 1
     refine mV (fun q o hq=>?_)
     have:=(X.T9.1 _ _ _ hq).1
     rw [hall q this,Nat.testBit_two_pow_sub_one];simp [this]
    refine ⟨a2,ρ2,w2,⟨I2.hr.congr hsame,?_,I2.asz,?_⟩,I2.trr.congr hsame,Steps.head stepR_region_draw ?_⟩
    ·intro t v ht
     have h1:Z0.get t=dF.tm.get t:=by
      rw [I2.tm t,DX c rfl ops.size (Nat.le_refl _) (fun i _ hi _ _=>hall i hi),hlast]
     obtain ⟨v',h2,h3⟩:=I2.tr t v (by rw [h1];exact ht)
     exact ⟨v',h2,by show VR (aI (2^ops.size-1) dF.h dF.as).nx ρ2 v v';rw [n2,e1];exact h3⟩
    ·show L2 (ru (aI (2^ops.size-1) dF.h dF.as).nx ρ2) dF.df a2.defers
     rw [n2,e1,e2];exact I2.df
    ·simp only [Region.schedule,hm,Bool.true_or,if_true]
     exact s2
  ·cases hv
end Go.CE
namespace Go.CE
open Go Go.RowKit
variable [aa]
variable {P:Program} {G:Nat}
omit [aa] in
theorem LW:∀ (cs:List Value) (k:Nat) (vs:List Value),k+vs.length≤cs.length→∃ cs',putAt cs k vs=some cs':=by
 intro cs
 induction cs with
 |nil=>
  intro k vs h
  have hk:k=0:=by simp at h;omega
  subst hk
  simp only [putAt]
  have:Nat.ble vs.length ([]:List Value).length=true:=Nat.ble_eq_true_of_le (by simpa using h)
  rw [this];exact ⟨_,rfl⟩
 |cons c cs ih=>
  intro k vs h
  cases k with
  |zero=>
   simp only [putAt]
   have:Nat.ble vs.length (c::cs).length=true:=Nat.ble_eq_true_of_le (by simpa using h)
   rw [this];exact ⟨_,rfl⟩
  |succ k=>
   obtain ⟨x,hx⟩:=ih k vs (by simp at h;omega)
   simp only [putAt,hx]
   exact ⟨_,rfl⟩
omit [aa] in
theorem lC {h x:H} {i k:Nat} {vs:List Value} (hw:h.write G i k vs=some x):∃ cs cs',h.hp.get i=some (.cells cs)∧Nat.ble G i=true∧vs.all oneCell=true∧putAt cs k vs=some cs'∧x=h.put i (some (.cells cs')):=by
 unfold H.write at hw
 cases hb:(Nat.ble G i&&vs.all oneCell) with
 |false=>rw [hb] at hw;cases hw
 |true=>
  rw [hb,cond_true] at hw
  simp only [Bool.and_eq_true] at hb
  split at hw
  ·rename_i cs hc
   split at hw
   ·rename_i cs' hp
    cases hw
    refine ⟨cs,cs',?_,hb.1,hb.2,hp,rfl⟩
    unfold H.cells at hc
    split at hc
    ·rename_i e;cases hc;exact e
    ·cases hc
   ·cases hw
  ·cases hw
omit [aa] in
theorem qz {h:H} {i k:Nat} {vs cs cs':List Value} (h1:h.hp.get i=some (.cells cs)) (h2:Nat.ble G i=true) (h3:vs.all oneCell=true) (h4:putAt cs k vs=some cs'):h.write G i k vs=some (h.put i (some (.cells cs'))):=by
 unfold H.write H.cells
 rw [h2,h3,h1]
 simp only [Bool.and_self,cond_true,h4]
omit [aa] in
theorem fH (h:H) (i:Nat) (o:Option aJ) (j:Nat):(h.put i o).hp.get j=if j=i then o else h.hp.get j:=TH.fT _ _ _ _
omit [aa] in
theorem acG (i m:Nat):(bif Nat.ble i m then i else m)=min i m:=by
 cases hb:Nat.ble i m with
 |true=>have:=Nat.le_of_ble_eq_true hb;rw [cond_true];omega
 |false=>
  have:¬i≤m:=fun h=>by rw [Nat.ble_eq_true_of_le h] at hb;cases hb
  rw [cond_false];omega
omit [aa] in
theorem Ai (h:H) (i:Nat) (o:Option aJ):(h.put i o).mw=min i h.mw:=acG i h.mw
omit [aa] in
theorem Same.symm {h h':H} (s:Same h h'):Same h' h:=⟨s.nx.symm,s.mw.symm,fun i=>(s.get i).symm⟩
omit [aa] in
theorem Same.trans {h h' h'':H} (s:Same h h') (t:Same h' h''):Same h h'':=⟨t.nx.trans s.nx,t.mw.trans s.mw,fun i=>(t.get i).trans (s.get i)⟩
omit [aa] in
theorem Pg {h h' x:H} (s:Same h h') {i k:Nat} {vs:List Value} (hw:h.write G i k vs=some x):∃ y,h'.write G i k vs=some y∧Same x y:=by
 obtain ⟨cs,cs',h1,h2,h3,h4,rfl⟩:=lC hw
 refine ⟨_,qz (by rw [s.get];exact h1) h2 h3 h4,s.nx,by rw [Ai,Ai,s.mw],fun j=>?_⟩
 rw [fH,fH,s.get]
omit [aa] in
theorem uB {h x:H} {i k:Nat} {vs:List Value} (hw:h.write G i k vs=some x) (B:Nat) (as:List (Nat×Nat×aJ)):∃ y,(aI B h as).write G i k vs=some y∧Same y (aI B x as):=by
 obtain ⟨cs,cs',h1,h2,h3,h4,rfl⟩:=lC hw
 obtain ⟨n1,m1,g1⟩:=aK B h as
 obtain ⟨n2,m2,g2⟩:=aK B (h.put i (some (.cells cs'))) as
 refine ⟨_,qz (by rw [g1,h1];rfl) h2 h3 h4,?_,by rw [Ai,m2,Ai,m1],fun j=>?_⟩
 ·rw [n2];show h.nx=(aI B h as).nx;rw [n1]
 ·rw [fH,g2,fH]
  by_cases e:j=i
  ·rw [if_pos e,if_pos e];rfl
  ·rw [if_neg e,if_neg e,g1]
omit [aa] in
theorem LX {x y:Nat×Nat×List Value} (h:nU x y=true):x.1≠y.1∨x.2.1+x.2.2.length≤y.2.1∨y.2.1+y.2.2.length≤x.2.1:=by
 unfold nU at h
 rw [Bool.or_eq_true,Bool.or_eq_true] at h
 rcases h with h|h|h
 ·left;intro e;rw [e,Nat.beq_refl] at h;cases h
 ·exact .inr (.inl (Nat.le_of_ble_eq_true h))
 ·exact .inr (.inr (Nat.le_of_ble_eq_true h))
omit [aa] in
theorem Ph {h h1 h2:H} {x y:Nat×Nat×List Value} (ha:nU x y=true) (hx:h.write G x.1 x.2.1 x.2.2=some h1) (hy:h.write G y.1 y.2.1 y.2.2=some h2):
 ∃ z w,h1.write G y.1 y.2.1 y.2.2=some z∧h2.write G x.1 x.2.1 x.2.2=some w∧Same z w:=by
 obtain ⟨i,k,vs⟩:=x
 obtain ⟨i',k',vs'⟩:=y
 have hc:=LX ha
 simp only at hc hx hy ⊢
 obtain ⟨cs,cs1,a1,a2,a3,a4,rfl⟩:=lC hx
 obtain ⟨ds,ds1,b1,b2,b3,b4,rfl⟩:=lC hy
 by_cases e:i=i'
 ·subst e
  have:ds=cs:=by rw [a1] at b1;cases b1;rfl
  subst this
  have hc':k+vs.length≤k'∨k'+vs'.length≤k:=by rcases hc with h|h;exact absurd rfl h;exact h
  obtain ⟨p1,p2,p3⟩:=nZ _ _ _ _ a4
  obtain ⟨q1,q2,q3⟩:=nZ _ _ _ _ b4
  obtain ⟨cs2,r1⟩:=LW cs1 k' vs' (by omega)
  obtain ⟨ds2,r2⟩:=LW ds1 k vs (by omega)
  obtain ⟨u1,u2,u3⟩:=nZ _ _ _ _ r1
  obtain ⟨v1,v2,v3⟩:=nZ _ _ _ _ r2
  have heq:cs2=ds2:=by
   apply List.ext_getElem?
   intro j
   rw [u3,v3,p3,q3]
   by_cases c1:k≤j∧j<k+vs.length<;>by_cases c2:k'≤j∧j<k'+vs'.length
   ·omega
   ·rw [if_neg c2,if_pos c1,if_pos c1]
   ·rw [if_pos c2,if_neg c1,if_pos c2]
   ·rw [if_neg c2,if_neg c1,if_neg c1,if_neg c2]
  subst heq
  refine ⟨_,_,qz (by rw [fH,if_pos rfl]) b2 b3 r1,qz (by rw [fH,if_pos rfl]) a2 a3 r2,rfl,by simp only [Ai],fun j=>?_⟩
  rw [fH,fH,fH,fH]
  by_cases ej:j=i
  ·rw [if_pos ej,if_pos ej]
  ·simp only [if_neg ej]
 ·have e':i'≠i:=fun x=>e x.symm
  refine ⟨_,_,qz (by rw [fH,if_neg e'];exact b1) b2 b3 b4,qz (by rw [fH,if_neg e];exact a1) a2 a3 a4,rfl,by simp only [Ai];omega,fun j=>?_⟩
  rw [fH,fH,fH,fH]
  by_cases c1:j=i
  ·subst c1;rw [if_pos rfl,if_neg e,if_pos rfl]
  ·by_cases c2:j=i'
   ·subst c2;rw [if_neg e',if_pos rfl,if_pos rfl]
   ·simp only [if_neg c1,if_neg c2]
omit [aa] in
theorem qA {ih:Task→Option (List Out)} {rd:Option Nat} {op:Op} {tm:TV} {df:List Deferred} {h:H} {r:V3} {t:Nat×Nat×List Value} (ht:jk G tm op=some t) (hr:dZ P G ih rd op tm df h=some [r]):
 h.write G t.1 t.2.1 t.2.2=some r.h∧r.v=undef∧r.df=df∧∀ (h' y:H),h'.write G t.1 t.2.1 t.2.2=some y→dZ P G ih rd op tm df h'=some [⟨undef,df,y⟩]:=by
 cases op<;>simp only [jk] at ht<;>try cases ht
 rename_i ty a x
 split at ht
 ·rename_i i k v ha hx
  cases ht
  have key:∀ h':H,dZ P G ih rd (.store ty a x) tm df h'=(match mD P G tm h' ty a x with|some r=>Gy G ih h' df r|none=>none):=fun _=>rfl
  rw [key] at hr
  unfold mD at hr
  rw [ha,hx] at hr
  try simp only at hr
  cases hs:dU P ty with
  |none=>rw [hs] at hr;simp at hr
  |some n=>
   rw [hs] at hr
   try simp only at hr
   cases hn:Nat.beq v.cells.size n with
   |false=>rw [hn] at hr;simp at hr
   |true=>
    rw [hn,cond_true] at hr
    cases hw:h.write G i k v.cells.toList with
    |none=>rw [hw] at hr;simp at hr
    |some h1=>
     rw [hw] at hr
     simp only [Gy,Option.some.injEq,List.cons.injEq,and_true] at hr
     subst hr
     refine ⟨rfl,rfl,rfl,fun h' y hy=>?_⟩
     rw [key]
     unfold mD
     rw [ha,hx,hs]
     try simp only at hy ⊢
     rw [hn,cond_true,hy]
     rfl
 ·cases ht
end Go.CE
namespace Go.CE
open Go Go.RowKit
variable [aa]
variable {P:Program} {G:Nat}
omit [aa] in
theorem aao {ops:Array Oper} (he:eH ops.toList 0=true) {b:Frame} {k:List Item} {cs:List Frame} (J:Array Bool→Nat→Act→World→Prop) (hsize:∀ l M a w,J l M a w→l.size=ops.size)
 (GM:∀ l M a w,J l M a w→∀ i,i<ops.size→l.getD i true=Nat.testBit M i)
 (hone:∀ l M a w,J l M a w→∀ j rest,j∈Region.ready .any ops l→∃ a' w' M',J (l.setIfInBounds j true) M' a' w'∧Steps P (lone (b.atR a (.inRegion ops (j::rest)::k)) cs w) (lone (b.atR a' (.inRegion ops rest::k)) cs w')):
 ∀ (fuel t:Nat) (l:Array Bool) (M:Nat) (a:Act) (w:World),J l M a w→((List.range ops.size).filter fun i=> !l.getD i true).length≤fuel→
   ∃ l' M' a' w',J l' M' a' w'∧(∀ i,i<ops.size→Nat.testBit M' i=true)∧Steps P (lone (b.atR a (.inRegion ops (Region.linearise.go .any ops fuel t l [])::k)) cs w) (lone (b.atR a' k) cs w'):=by
 intro fuel
 induction fuel with
 |zero=>
  intro t l M a w I hf
  have hnil:=List.length_eq_zero_iff.1 (Nat.le_zero.1 hf)
  refine ⟨l,M,a,w,I,fun i hi=>?_,Steps.one stepR_region_end⟩
  rw [←GM _ _ _ _ I i hi]
  cases hc:l.getD i true with
  |true=>rfl
  |false=>
   have:i∈(List.range ops.size).filter fun i=> !l.getD i true:=by rw [List.mem_filter];exact ⟨List.mem_range.2 hi,by rw [hc];rfl⟩
   rw [hnil] at this;cases this
 |succ fuel ih2=>
  intro t l M a w I hf
  simp only [Region.linearise.go]
  change ∃ l' M' a' w',J l' M' a' w'∧(∀ i,i<ops.size→Nat.testBit M' i=true)∧
   Steps P (lone (b.atR a (.inRegion ops (match (Region.ready .any ops l)[t%(Region.ready .any ops l).length]? with
    |some i=>Region.linearise.go .any ops fuel (t/(Region.ready .any ops l).length) (l.setIfInBounds i true) [i]
    |none=>[].reverse)::k)) cs w) (lone (b.atR a' k) cs w')
  cases hi:(Region.ready .any ops l)[t%(Region.ready .any ops l).length]? with
  |none=>
   have hnil:Region.ready .any ops l=[]:=by
    cases hr:Region.ready .any ops l with
    |nil=>rfl
    |cons x xs=>
     rw [hr] at hi
     have hlt:t%(x::xs).length<(x::xs).length:=Nat.mod_lt _ (by simp)
     rw [List.getElem?_eq_getElem hlt] at hi;cases hi
   refine ⟨l,M,a,w,I,fun i=>?_,Steps.one stepR_region_end⟩
   induction i using Nat.strongRecOn with
   |ind i ih3=>
    intro hlt
    rw [←GM _ _ _ _ I i hlt]
    cases hc:l.getD i true with
    |true=>rfl
    |false=>
     obtain ⟨o,ho⟩:=mK (ops:=ops) hlt
     have:i∈Region.ready .any ops l:=mem_ready.2 ⟨hc,o,ho,fun e he2 hb=>by
      have h4:=xe _ _ he i o (by rw [Array.getElem?_toList];exact ho) e he2 hb
      rw [Nat.zero_add] at h4
      have h5:=ih3 e.on h4 (by omega)
      rw [←GM _ _ _ _ I e.on (by omega)] at h5
      have:e.on<l.size:=by rw [hsize _ _ _ _ I];omega
      simp only [Array.getD,this,dite_true] at h5 ⊢
      exact h5⟩
     rw [hnil] at this;cases this
  |some j=>
   have hmem:j∈Region.ready .any ops l:=List.mem_of_getElem? hi
   simp only
   rw [linearise_go_acc,List.reverse_singleton,List.singleton_append]
   obtain ⟨a1,w1,M1,I1,s1⟩:=hone _ _ _ _ I j (Region.linearise.go .any ops fuel (t/(Region.ready .any ops l).length) (l.setIfInBounds j true) []) hmem
   have hun:=(mem_ready.1 hmem).1
   obtain ⟨o,ho,_⟩:=(mem_ready.1 hmem).2
   have hj:j<ops.size:=(Array.getElem?_eq_some_iff.1 ho).1
   have hless:=wH hj (hsize _ _ _ _ I) hun
   obtain ⟨l2,M2,a2,w2,I2,h2,s2⟩:=ih2 (t/(Region.ready .any ops l).length) _ _ _ _ I1 (by omega)
   exact ⟨l2,M2,a2,w2,I2,h2,s1.trans s2⟩
section
variable {ih:Task→Option (List Out)} {rd:Option Nat} {sz:Nat} {ops:Array Oper} {Bc:Array Nat} {bq:Nat} {d dF:Dr} {D:Nat→Dr} {T:Nat→List eG} {s:Nat} {t:Nat×Nat×List Value} {os:Oper} {rs:V3}
structure Float (P:Program) (G:Nat) (ih:Task→Option (List Out)) (rd:Option Nat) (sz:Nat) (ops:Array Oper) (Bc:Array Nat) (bq:Nat) (d dF:Dr) (D:Nat→Dr) (T:Nat→List eG) (s:Nat) (t:Nat×Nat×List Value) (os:Oper) (rs:V3):Prop where
 X:Ctx P G ih rd sz ops Bc bq d dF D T
 size:s+1=ops.size
 masks:∀ j,j≠s→Bc.getD j 0=(Region.before ops).getD j 0
 recs:gF P G (Region.before ops) dF.as (aP dF.rs []) d.h dF.rs=true
 op:ops[s]? =some os
 act:uw P G ih rd sz ops Bc bq s os rs (D s) (D (s+1))
 tgt:jk G (D s).tm os.op=some t
 wr:∀ i,i≤s→∃ x,(D i).h.write G t.1 t.2.1 t.2.2=some x
 eff:Bo G ((Region.before ops).getD s 0) t (D s).rs=true
 ahs:oU P G (Region.before ops) ((Region.before ops).getD s 0) dF.as ((aP (D s).rs []).map fun e=>⟨e.i,e.df,fU G t e.h⟩) (fU G t d.h) (D s).rs=true
noncomputable def qB (G:Nat) (t:Nat×Nat×List Value) (D:Nat→Dr) (s:Nat):Pf:=⟨fun i=>fU G t (D i).h,fun e=>Eff D e∧e≠s⟩
omit [aa] in
omit [aa] in
theorem vH {h x:H} (hw:h.write G t.1 t.2.1 t.2.2=some x):fU G t h=x:=by unfold fU;rw [hw]
omit [aa] in
theorem Ua {B:Nat}:∀ {l:List Rec},Bo G B t l=true→∀ r∈l,∀ df h,r.k= .acts df h→Nat.testBit B r.i=true∨∃ t',jk G r.tm r.o.op=some t'∧nU t t'=true:=by
 intro l
 induction l with
 |nil=>intro _ r hr;cases hr
 |cons x l ih=>
  intro h r hr df hh hk
  simp only [Bo,Bool.and_eq_true] at h
  cases hr with
  |head=>
   have h1:=h.1
   rw [hk] at h1
   simp only [Bool.or_eq_true] at h1
   rcases h1 with h1|h1
   ·exact .inl h1
   ·right
    split at h1
    ·rename_i t' e;exact ⟨t',e,h1⟩
    ·cases h1
  |tail _ hr=>exact ih h.2 r hr df hh hk
omit [aa] in
theorem Ub {Bs:Array Nat} {B:Nat} {as:List (Nat×Nat×aJ)} {st:List eG} {h0:H}:∀ {l:List Rec},oU P G Bs B as st h0 l=true→∀ r∈l,r.k= .reads→Nat.testBit B r.i=true∨iZ r.o.op=true∨fG P G Bs (Bs.getD r.i 0) as r st h0=true:=by
 intro l
 induction l with
 |nil=>intro _ r hr;cases hr
 |cons x l ih=>
  intro h r hr hk
  simp only [oU,Bool.and_eq_true] at h
  cases hr with
  |head=>have h1:=h.1;rw [hk] at h1;simpa [Bool.or_eq_true] using h1
  |tail _ hr=>exact ih h.2 r hr hk
omit [aa] in
theorem bV.Rs (c:bV P G ih rd sz ops Bc bq 0 ops.toList d dF D T) {i j:Nat} (hij:i≤j) (hj:j≤ops.size):∀ r∈(D i).rs,r∈(D j).rs:=by
 induction j with
 |zero=>obtain rfl:i=0:=by omega
        exact fun _ h=>h
 |succ j ih2=>
  by_cases e:i=j+1
  ·subst e;exact fun _ h=>h
  ·intro r hr
   obtain ⟨o,ho⟩:=mK (ops:=ops) (i:=j) (by omega)
   obtain ⟨r',hr'⟩:=IY (c.step' ho)
   rw [hr']
   exact List.mem_cons_of_mem _ (ih2 (by omega) (by omega) r hr)
variable (F:Float P G ih rd sz ops Bc bq d dF D T s t os rs)
include F
theorem Float.aeB:Eff D s:=by unfold Eff;rw [F.act.eq]
theorem Float.other {j:Nat} {o:Oper} {r:V3} (hj:j<s) (hst:uw P G ih rd sz ops Bc bq j o r (D j) (D (j+1))) (hb:Nat.testBit ((Region.before ops).getD s 0) j=false):
 ∃ t',jk G (D j).tm o.op=some t'∧nU t t'=true:=by
 have hmem:(⟨j,o,(D j).tm,.acts r.df r.h,r.v⟩:Rec)∈(D s).rs:=F.X.chain.Rs (i:=j+1) (by omega) (by have:=F.size;omega) _ (by rw [hst.eq];exact List.mem_cons_self)
 rcases Ua F.eff _ hmem r.df r.h rfl with h|h
 ·rw [hb] at h;cases h
 ·exact h
theorem Float.aht {h00:H} {ρ0:Ren} {w0:World} {listed:Array Bool} {M p:Nat} {rO:TV} {b:Frame} {a:Act} {k:List Item} {cs:List Frame} {w:World} {ρ:Ren}
 (I:Inv G sz ops (Region.before ops) bq d dF D (rP D) h00 ρ0 w0 listed M p rO a w ρ) {rest:List Nat} (hun:Nat.testBit M s=false)
 (hre:∀ b,Nat.testBit ((Region.before ops).getD s 0) b=true→Nat.testBit M b=true) (hrd:um h00.nx ρ0 rd b) (hk:jW b.kind cs):
 ∃ a' w' ρ' M' tm',Inv G sz ops (Region.before ops) bq d dF D (qB G t D s) h00 ρ0 w0 (listed.setIfInBounds s true) M' p tm' a' w' ρ'∧p≤s∧Nat.testBit M' s=true∧
   Steps P (lone (b.atR a (.inRegion ops (s::rest)::k)) cs w) (lone (b.atR a' (.inRegion ops rest::k)) cs w'):=by
 have hsz:=F.size
 have hps:p≤s:=by
  have:=(not_congr (I.stage s (by omega) F.aeB)).1 (by rw [hun];simp);omega
 have ahu:∀ i,p≤i→i≤s→(D i).df=(D p).df:=by
  intro i
  induction i with
  |zero=>intro h _;obtain rfl:p=0:=by omega
         rfl
  |succ i ih2=>
   intro h1 h2
   by_cases e:p=i+1
   ·subst e;rfl
   ·rw [←ih2 (by omega) (by omega)]
    obtain ⟨o,ho⟩:=mK (ops:=ops) (i:=i) (by omega)
    by_cases hE:Eff D i
    ·rcases dx (F.X.chain.step' ho) with h|⟨v,h⟩|⟨v,ob,h⟩|⟨r,h⟩
     ·rw [h.eq]
     ·rw [h.eq]
     ·rw [h.eq]
     ·have hb:Nat.testBit ((Region.before ops).getD s 0) i=false:=by
       cases hc:Nat.testBit ((Region.before ops).getD s 0) i with
       |false=>rfl
       |true=>have:=(I.stage i (by omega) hE).1 (hre i hc);omega
      obtain ⟨t',h3,_⟩:=F.other (by omega) h hb
      have:=(qA h3 h.run).2.2.1
      rw [h.eq];exact this
    ·exact (F.X.chain.quiet ho hE).2.2.1
 obtain ⟨x1,hx1⟩:=F.wr p hps
 obtain ⟨hw,hw1,hw2⟩:=uB hx1 ((Region.before ops).getD s 0) (D s).as
 have hrun:=(qA F.tgt F.act.run).2.2.2 _ _ hw1
 have hv0:=(qA F.tgt F.act.run).2.1
 rw [ahu s hps (Nat.le_refl _)] at hrun
 have Bu:∀ x∈(D s).as,x∈dF.as:=F.X.chain.made s (by simp;omega)
 have hsub:Sub (aI ((Region.before ops).getD s 0) (D p).h (D s).as) (aI M (D p).h dF.as):=qx F.X.T9.2 Bu hre _
 have hsa:=F.X.yO (F.X.yP F.op (by rw [F.act.eq]))
 have hK:(qB G t D s).K p=x1:=vH hx1
 obtain ⟨n1,m1,g1⟩:=aK ((Region.before ops).getD s 0) x1 (D s).as
 obtain ⟨n2,m2,g2⟩:=aK (M|||2^s) x1 dF.as
 obtain ⟨n3,m3,g3⟩:=aK M (D p).h dF.as
 obtain ⟨n4,m4,g4⟩:=aK ((Region.before ops).getD s 0) (D p).h (D s).as
 have hsub2:Sub (aI ((Region.before ops).getD s 0) x1 (D s).as) (aI (M|||2^s) x1 dF.as):=qx F.X.T9.2 Bu (fun b hb=>je (hre b hb)) _
 obtain ⟨a',w',ρ',tm',h1,h2⟩:=I.next (L':=qB G t D s) F.X.chain F.X.count F.X.calls F.X.names F.op hun hre F.act.wanted hsub hrun (by rw [F.act.eq];simp only [hv0]) (p':=p) I.ple
  (fun e he hE=>by rw [dG _ hE.2];exact I.stage e he hE.1) rfl (by rw [hK,←n1];exact hw2.nx) (by rw [hK,←m1];exact hw2.mw)
  (fun i x hx=>by rw [hK];exact hsub2.get i x (by rw [hw2.get];exact hx))
  (fun i hx hy=>by
    rw [hK,g2]
    show _=(aI M (D p).h dF.as).hp.get i
    rw [g3,hsa]
    have e1:x1.hp.get i=none:=by
     have:=hw2.get i
     rw [hx,g1] at this
     cases hz:x1.hp.get i with
     |none=>rfl
     |some z=>rw [hz] at this;cases this
    have e2:(D p).h.hp.get i=none:=by
     rw [g4] at hy
     cases hz:(D p).h.hp.get i with
     |none=>rfl
     |some z=>rw [hz] at hy;cases hy
    rw [e1,e2])
  (fun i hx hy=>by
    obtain ⟨cs,cs',c1,_,_,_,c2⟩:=lC hw1
    rw [c2,fH] at hx
    split at hx
    ·cases hx
    ·exact absurd hx hy) hrd hk
 exact ⟨a',w',ρ',_,tm',h1,hps,kH _ _,h2⟩
theorem Float.ahv {h00:H} {ρ0:Ren} {w0:World} {listed:Array Bool} {M p:Nat} {rO:TV} {b:Frame} {a:Act} {k:List Item} {cs:List Frame} {w:World} {ρ:Ren}
 (I:Inv G sz ops (Region.before ops) bq d dF D (qB G t D s) h00 ρ0 w0 listed M p rO a w ρ) (hps:p≤s) (Pj:Nat.testBit M s=true) {j:Nat} {rest:List Nat} {o:Oper} (ho:ops[j]? =some o) (hun:Nat.testBit M j=false)
 (hre:∀ b,Nat.testBit ((Region.before ops).getD j 0) b=true→Nat.testBit M b=true) {r:V3} (hst:uw P G ih rd sz ops Bc bq j o r (D j) (D (j+1))) (hrd:um h00.nx ρ0 rd b) (hk:jW b.kind cs):
 ∃ a' w' ρ' M' p' tm',Inv G sz ops (Region.before ops) bq d dF D (qB G t D s) h00 ρ0 w0 (listed.setIfInBounds j true) M' p' tm' a' w' ρ'∧p'≤s∧Nat.testBit M' s=true∧
   Steps P (lone (b.atR a (.inRegion ops (j::rest)::k)) cs w) (lone (b.atR a' (.inRegion ops rest::k)) cs w'):=by
 have hsz:=F.size
 have hj:j<ops.size:=(Array.getElem?_eq_some_iff.1 ho).1
 have hjs:j≠s:=fun e=>by subst e;rw [Pj] at hun;cases hun
 have hE:Eff D j:=by unfold Eff;rw [hst.eq]
 have hpj:p≤j:=by
  have:=(not_congr (I.stage j hj ⟨hE,hjs⟩)).1 (by rw [hun];simp);omega
 have hB:=F.masks j hjs
 have hes:=hst.es
 have abL:=hst.run
 rw [hB] at hes abL
 have yQ:∀ e,e<j→Eff D e→e<p:=by
  intro e he hEe
  have:=hes e ((F.X.chain.es F.X.es0 j (by omega) e).2 ⟨he,hEe⟩)
  exact (I.stage e (by omega) ⟨hEe,by omega⟩).1 (hre e this)
 obtain ⟨e1,e2⟩:=F.X.chain.still hpj (by omega) (fun e h1 h2 h3=>by have:=yQ e h2 h3;omega)
 have hb:Nat.testBit ((Region.before ops).getD s 0) j=false:=by
  cases hc:Nat.testBit ((Region.before ops).getD s 0) j with
  |false=>rfl
  |true=>have:=I.closed s j (by omega) Pj hc;rw [hun] at this;cases this
 obtain ⟨t',ht1,ht2⟩:=F.other (by omega) hst hb
 obtain ⟨s1,s2,s3,s4⟩:=qA ht1 abL
 obtain ⟨x1,hx1⟩:=F.wr j (by omega)
 obtain ⟨hw,hw1,hw2⟩:=uB hx1 ((Region.before ops).getD j 0) (D j).as
 obtain ⟨z0,w1,c1,c2,c3⟩:=Ph ht2 hw1 s1
 obtain ⟨z,c4,c5⟩:=Pg hw2 c1
 have hrun:=s4 _ _ c4
 have hKp:(qB G t D s).K p=x1:=by show fU G t (D p).h=x1;rw [←e1];exact vH hx1
 have hKj:(qB G t D s).K (j+1)=w1:=by show fU G t (D (j+1)).h=w1;rw [hst.eq];exact vH c2
 have wI:Same z w1:=c5.symm.trans c3
 have Bu:∀ x∈(D j).as,x∈dF.as:=F.X.chain.made j (by simp;omega)
 have hsub:Sub (aI ((Region.before ops).getD j 0) x1 (D j).as) (aI M ((qB G t D s).K p) dF.as):=by rw [hKp];exact qx F.X.T9.2 Bu hre _
 have hsa:=F.X.yO (F.X.yP ho (by rw [hst.eq]))
 obtain ⟨n2,m2,g2⟩:=aK (M|||2^j) w1 dF.as
 obtain ⟨n3,m3,g3⟩:=aK M x1 dF.as
 obtain ⟨n4,m4,g4⟩:=aK ((Region.before ops).getD j 0) x1 (D j).as
 obtain ⟨a',w',ρ',tm',h1,h2⟩:=I.next (L':=qB G t D s) F.X.chain F.X.count F.X.calls F.X.names ho hun hre hst.wanted hsub (by rw [←e2];exact hrun) (by rw [hst.eq];simp only [s2]) (p':=j+1) (by omega)
  (fun e he hEe=>by
    by_cases h:e=j
    ·subst h;rw [kH];exact ⟨fun _=>by omega,fun _=>rfl⟩
    ·rw [dG _ h]
     constructor
     ·intro hb;have:=(I.stage e he hEe).1 hb;omega
     ·intro hl;exact (I.stage e he hEe).2 (yQ e (by omega) hEe.1))
  (by rw [hst.eq];exact s3) (by rw [hKj];exact wI.nx) (by rw [hKj];exact wI.mw)
  (fun i x hx=>by
    rw [hKj,g2,wI.get]
    have hx':z.hp.get i=some x:=hx
    rw [hx'];rfl)
  (fun i hx hy=>by
    have hx':z.hp.get i=none:=hx
    rw [hKj,hKp,g2,g3,wI.get,hx',hsa]
    have:x1.hp.get i=none:=by
     rw [g4] at hy
     cases hz:x1.hp.get i with
     |none=>rfl
     |some y=>rw [hz] at hy;cases hy
    rw [this])
  (fun i hx hy=>by
    obtain ⟨cs,cs',k1,_,_,_,k2⟩:=lC c4
    have hx':z.hp.get i=none:=hx
    rw [k2,fH] at hx'
    split at hx'
    ·cases hx'
    ·exact absurd hx' hy) hrd hk
 exact ⟨a',w',ρ',_,_,tm',h1,by omega,je Pj,h2⟩
end
end Go.CE
namespace Go.CE
open Go Go.RowKit
variable [aa]
variable {P:Program} {G:Nat}
section
variable {ih:Task→Option (List Out)} {rd:Option Nat} {sz:Nat} {ops:Array Oper} {Bc:Array Nat} {bq:Nat} {d dF:Dr} {D:Nat→Dr} {T:Nat→List eG} {s:Nat} {t:Nat×Nat×List Value} {os:Oper} {rs:V3}
variable (F:Float P G ih rd sz ops Bc bq d dF D T s t os rs)
include F
theorem Float.later:∀ n i,n=s-i→i≤s→T i=(T i).dropLast++[⟨s,(D (s+1)).df,(D (s+1)).h⟩]∧∀ e∈(T i).dropLast,i≤e.i∧e.i<s∧Eff D e.i:=by
 have hsz:=F.size
 intro n
 induction n with
 |zero=>
  intro i hn hi
  obtain rfl:i=s:=by omega
  have h1:=F.X.chain.act F.op F.aeB
  have h2:=F.X.chain.done
  simp only [Array.length_toList] at h2
  rw [←hsz] at h2
  rw [h1,h2]
  exact ⟨rfl,fun e he=>by cases he⟩
 |succ n ih2=>
  intro i hn hi
  obtain ⟨o,ho⟩:=mK (ops:=ops) (i:=i) (by omega)
  obtain ⟨h1,h2⟩:=ih2 (i+1) (by omega) (by omega)
  by_cases hE:Eff D i
  ·have h3:=F.X.chain.act ho hE
   have hne:T (i+1)≠[]:=by rw [h1];simp
   rw [h3,List.dropLast_cons_of_ne_nil hne]
   refine ⟨by rw [List.cons_append,←h1],fun e he=>?_⟩
   cases he with
   |head=>exact ⟨Nat.le_refl _,by show i<s;omega,hE⟩
   |tail _ he=>obtain ⟨k1,k2,k3⟩:=h2 e he;exact ⟨by omega,k2,k3⟩
  ·rw [(F.X.chain.quiet ho hE).2.2.2]
   exact ⟨h1,fun e he=>by obtain ⟨k1,k2,k3⟩:=h2 e he;exact ⟨by omega,k2,k3⟩⟩
theorem Float.stages:aP (D s).rs []=(T 0).dropLast:=by
 have h1:=F.X.chain.stages
 rw [F.X.rs0] at h1
 simp only [aP,List.nil_append] at h1
 have hsz:=F.size
 have hF:D (s+1)=dF:=by rw [hsz,←F.X.chain.last];simp
 have h2:dF.rs=⟨s,os,(D s).tm,.acts rs.df rs.h,rs.v⟩::(D s).rs:=by rw [←hF,F.act.eq]
 rw [h2,pI] at h1
 obtain ⟨h3,_⟩:=F.later s 0 (by omega) (by omega)
 rw [h3] at h1
 exact (List.append_inj' h1 rfl).1
theorem Float.aeC {M p j:Nat} {o:Oper} (ho:ops[j]? =some o) (hun:Nat.testBit M j=false) (hre:∀ b,Nat.testBit ((Region.before ops).getD j 0) b=true→Nat.testBit M b=true)
 (closed:∀ j b,j<ops.size→Nat.testBit M j=true→Nat.testBit ((Region.before ops).getD j 0) b=true→Nat.testBit M b=true)
 (hps:p≤s) (Pj:Nat.testBit M s=true) (stage:∀ e,e<ops.size→(qB G t D s).E e→(Nat.testBit M e=true↔e<p)) {v:Value} (hs:vG P G sz ops Bc j o v (D j) (D (j+1))):
 mq P G (D j).tm (aI ((Region.before ops).getD j 0) ((qB G t D s).K p) dF.as) o.op=some v:=by
 have hsz:=F.size
 have hj:j<ops.size:=(Array.getElem?_eq_some_iff.1 ho).1
 have hjs:j≠s:=fun e=>by subst e;rw [Pj] at hun;cases hun
 have hrec:(⟨j,o,(D j).tm,.reads,v⟩:Rec)∈(D s).rs:=F.X.chain.Rs (i:=j+1) (by omega) (by omega) _ (by rw [hs.eq];exact List.mem_cons_self)
 have hb:Nat.testBit ((Region.before ops).getD s 0) j=false:=by
  cases hc:Nat.testBit ((Region.before ops).getD s 0) j with
  |false=>rfl
  |true=>have:=closed s j (by omega) Pj hc;rw [hun] at this;cases this
 have h0:iZ o.op=true∨fG P G (Region.before ops) ((Region.before ops).getD j 0) dF.as ⟨j,o,(D j).tm,.reads,v⟩ (((T 0).dropLast).map fun e=>⟨e.i,e.df,fU G t e.h⟩) (fU G t d.h)=true:=by
  rcases Ub F.ahs _ hrec rfl with h|h|h
  ·rw [hb] at h;cases h
  ·exact .inl h
  ·rw [F.stages] at h;exact .inr h
 rcases h0 with h0|h0
 ·obtain ⟨h',hr'⟩:=hs.run
  rw [←hr'];exact DU h0 _ _ _
 have walk:∀ i,i≤p→fG P G (Region.before ops) ((Region.before ops).getD j 0) dF.as ⟨j,o,(D j).tm,.reads,v⟩ (((T i).dropLast).map fun e=>⟨e.i,e.df,fU G t e.h⟩) (fU G t (D i).h)=true:=by
  intro i
  induction i with
  |zero=>intro _;rw [F.X.chain.first];exact h0
  |succ i ih2=>
   intro hi
   have h1:=ih2 (by omega)
   obtain ⟨o',ho'⟩:=mK (ops:=ops) (i:=i) (by omega)
   by_cases hE:Eff D i
   ·have hne:T (i+1)≠[]:=by rw [(F.later (s-(i+1)) (i+1) rfl (by omega)).1];simp
    rw [F.X.chain.act ho' hE,List.dropLast_cons_of_ne_nil hne,List.map_cons] at h1
    simp only [fG,Bool.and_eq_true,Bool.or_eq_true] at h1
    rcases h1.2 with h2|h2
    ·have:=closed i j (by omega) ((stage i (by omega) ⟨hE,by omega⟩).2 (by omega)) h2
     rw [hun] at this;cases this
    ·exact h2
   ·obtain ⟨_,h2,_,h4⟩:=F.X.chain.quiet ho' hE
    rw [h2,←h4];exact h1
 have hw:=walk p (Nat.le_refl _)
 have hso:oQ P G ((Region.before ops).getD j 0) (fU G t (D p).h) dF.as ⟨j,o,(D j).tm,.reads,v⟩ (((T p).dropLast).map fun e=>⟨e.i,e.df,fU G t e.h⟩)=true:=by
  cases hT:((T p).dropLast).map fun e=>(⟨e.i,e.df,fU G t e.h⟩:eG) with
  |nil=>rw [hT] at hw;simpa [fG] using hw
  |cons e r=>rw [hT] at hw;simp only [fG,Bool.and_eq_true] at hw;exact hw.1
 unfold oQ at hso
 rw [Bool.or_eq_true] at hso
 rcases hso with h|h
 ·obtain ⟨e,he,h2⟩:=List.any_eq_true.1 h
  obtain ⟨e',he',rfl⟩:=List.mem_map.1 he
  obtain ⟨k1,k2,k3⟩:=(F.later (s-p) p rfl hps).2 e' he'
  have:=(stage e'.i (by omega) ⟨k3,by omega⟩).1 (hre e'.i h2)
  omega
 ·show mq P G (D j).tm (aI ((Region.before ops).getD j 0) (fU G t (D p).h) dF.as) o.op=some v
  generalize hx:mq P G (D j).tm (aI ((Region.before ops).getD j 0) (fU G t (D p).h) dF.as) o.op=x at h
  cases x with
  |none=>simp [allEq] at h
  |some y=>simp only [allEq] at h;rw [Ad 8 v y h]
def Two (G sz:Nat) (ops:Array Oper) (bq:Nat) (d dF:Dr) (D:Nat→Dr) (s:Nat) (t:Nat×Nat×List Value) (h00:H) (ρ0:Ren) (w0:World) (l:Array Bool) (M:Nat) (a:Act) (w:World):Prop:=
 ∃ p tm ρ,(Inv G sz ops (Region.before ops) bq d dF D (rP D) h00 ρ0 w0 l M p tm a w ρ∧Nat.testBit M s=false)∨
   (Inv G sz ops (Region.before ops) bq d dF D (qB G t D s) h00 ρ0 w0 l M p tm a w ρ∧p≤s∧Nat.testBit M s=true)
theorem Float.one {h00:H} {ρ0:Ren} {w0:World} {b:Frame} {k:List Item} {cs:List Frame} (hrd:um h00.nx ρ0 rd b) (hk:jW b.kind cs) (l:Array Bool) (M:Nat) (a:Act) (w:World)
 (I:Two G sz ops bq d dF D s t h00 ρ0 w0 l M a w) (j:Nat) (rest:List Nat) (hj:j∈Region.ready .any ops l):
 ∃ a' w' M',Two G sz ops bq d dF D s t h00 ρ0 w0 (l.setIfInBounds j true) M' a' w'∧Steps P (lone (b.atR a (.inRegion ops (j::rest)::k)) cs w) (lone (b.atR a' (.inRegion ops rest::k)) cs w'):=by
 have hsz:=F.size
 obtain ⟨h1,o,ho,h2⟩:=mem_ready.1 hj
 have hlt:j<ops.size:=(Array.getElem?_eq_some_iff.1 ho).1
 have ready:∀ (M:Nat),(∀ i,i<ops.size→l.getD i true=Nat.testBit M i)→l.size=ops.size→(∀ j b,j<ops.size→Nat.testBit M j=true→Nat.testBit ((Region.before ops).getD j 0) b=true→Nat.testBit M b=true)→
  Nat.testBit M j=false∧∀ b,Nat.testBit ((Region.before ops).getD j 0) b=true→Nat.testBit M b=true:=by
  intro M GM hls hcl
  refine ⟨by rw [←GM j hlt];exact h1,fun x hx=>?_⟩
  obtain ⟨e,he,h3,h4,h5⟩:=Rp F.X.Xg ho hx
  have h6:=h2 e he h3
  have h7:Nat.testBit M e.on=true:=by
   rw [←GM e.on (by omega)]
   have:e.on<l.size:=by rw [hls];omega
   simp only [Array.getD,this,dite_true] at h6 ⊢
   exact h6
  rcases h5 with h5|h5
  ·rw [h5];exact h7
  ·exact hcl e.on x (by omega) h7 h5
 obtain ⟨p,tm,ρ,⟨I,Pj⟩|⟨I,hps,Pj⟩⟩:=I
 ·obtain ⟨hun,hre⟩:=ready M I.bits I.size I.closed
  by_cases ejs:j=s
  ·subst ejs
   obtain ⟨a',w',ρ',M',tm',q1,q2,q3,q4⟩:=F.aht I (rest:=rest) (k:=k) (cs:=cs) hun hre hrd hk
   exact ⟨a',w',M',⟨p,tm',ρ',.inr ⟨q1,q2,q3⟩⟩,q4⟩
  ·have fin:(∃ a' w' ρ' M' p' tm',Inv G sz ops (Region.before ops) bq d dF D (rP D) h00 ρ0 w0 (l.setIfInBounds j true) M' p' tm' a' w' ρ'∧
    Steps P (lone (b.atR a (.inRegion ops (j::rest)::k)) cs w) (lone (b.atR a' (.inRegion ops rest::k)) cs w'))→
    ∃ a' w' M',Two G sz ops bq d dF D s t h00 ρ0 w0 (l.setIfInBounds j true) M' a' w'∧Steps P (lone (b.atR a (.inRegion ops (j::rest)::k)) cs w) (lone (b.atR a' (.inRegion ops rest::k)) cs w'):=by
    rintro ⟨a',w',ρ',M',p',tm',q1,q2⟩
    refine ⟨a',w',M',⟨p',tm',ρ',.inl ⟨q1,?_⟩⟩,q2⟩
    rw [←q1.bits s (by omega)]
    have e':¬(j=s):=ejs
    have h3:=I.bits s (by omega)
    rw [Pj] at h3
    simp only [Array.getD_eq_getD_getElem?,Array.getElem?_setIfInBounds,e',if_false] at h3 ⊢
    exact h3
   rcases dx (F.X.chain.step' ho) with h|⟨v,h⟩|⟨v,ob,h⟩|⟨r,h⟩
   ·obtain ⟨a',w',ρ',tm',q1,q2⟩:=F.X.skip I ho hun hre (by show ¬Eff D j;unfold Eff;rw [h.eq];exact dz _ _) h (rest:=rest) (b:=b) (k:=k) (cs:=cs)
    exact fin ⟨a',w',ρ',_,_,tm',q1,q2⟩
   ·obtain ⟨a',w',ρ',tm',q1,q2⟩:=F.X.reads I ho hun hre (by show ¬Eff D j;unfold Eff;rw [h.eq];exact dz _ _) h (F.X.Rq F.recs ho hun hre I.closed I.ple I.stage h) hrd hk (rest:=rest) (k:=k) (cs:=cs)
    exact fin ⟨a',w',ρ',_,_,tm',q1,q2⟩
   ·obtain ⟨a',w',ρ',tm',q1,q2⟩:=F.X.makes I ho hun hre (by show ¬Eff D j;unfold Eff;rw [h.eq];exact dz _ _) h (rest:=rest) (b:=b) (k:=k) (cs:=cs)
    exact fin ⟨a',w',ρ',_,_,tm',q1,q2⟩
   ·exact fin (F.X.acts I ho hun hre h (F.masks j ejs) hrd hk)
 ·obtain ⟨hun,hre⟩:=ready M I.bits I.size I.closed
  have ejs:j≠s:=fun e=>by subst e;rw [Pj] at hun;cases hun
  rcases dx (F.X.chain.step' ho) with h|⟨v,h⟩|⟨v,ob,h⟩|⟨r,h⟩
  ·have hne:¬Eff D j:=by unfold Eff;rw [h.eq];exact dz _ _
   obtain ⟨a',w',ρ',tm',q1,q2⟩:=F.X.skip I ho hun hre (fun e=>hne e.1) h (rest:=rest) (b:=b) (k:=k) (cs:=cs)
   exact ⟨a',w',_,⟨p,tm',ρ',.inr ⟨q1,hps,je Pj⟩⟩,q2⟩
  ·have hne:¬Eff D j:=by unfold Eff;rw [h.eq];exact dz _ _
   obtain ⟨a',w',ρ',tm',q1,q2⟩:=F.X.reads I ho hun hre (fun e=>hne e.1) h (F.aeC ho hun hre I.closed hps Pj I.stage h) hrd hk (rest:=rest) (k:=k) (cs:=cs)
   exact ⟨a',w',_,⟨p,tm',ρ',.inr ⟨q1,hps,je Pj⟩⟩,q2⟩
  ·have hne:¬Eff D j:=by unfold Eff;rw [h.eq];exact dz _ _
   obtain ⟨a',w',ρ',tm',q1,q2⟩:=F.X.makes I ho hun hre (fun e=>hne e.1) h (rest:=rest) (b:=b) (k:=k) (cs:=cs)
   exact ⟨a',w',_,⟨p,tm',ρ',.inr ⟨q1,hps,je Pj⟩⟩,q2⟩
  ·obtain ⟨a',w',ρ',M',p',tm',q1,q2,q3,q4⟩:=F.ahv I hps Pj ho hun hre h hrd hk
   exact ⟨a',w',M',⟨p',tm',ρ',.inr ⟨q1,q2,q3⟩⟩,q4⟩
end
theorem Xj (hm:P.follows .mixedOrders=true) (hN:dV P) {ih:Task→Option (List Out)} (hI:IH P G ih):Xi P G (jL P G ih):=by
 intro rd ops st st' hv b a k cs w ρ id hs hrd hk
 unfold jL at hv
 simp only at hv
 cases hb:(eH ops.toList 0&&bM ops (Region.before ops) ops.toList 0) with
 |false=>rw [hb] at hv;cases hv
 |true=>
  rw [hb,cond_true] at hv
  simp only [Bool.and_eq_true] at hb
  split at hv
  ·rename_i dF hdr
   split at hv
   ·rename_i r0 rs0 BL
    cases hc:(gF P G (Region.before ops) dF.as (aP dF.rs []) {hp:=st.h.hp,nx:=st.h.nx+ops.size,mw:=st.h.mw} dF.rs&&
     wW P G (Region.before ops) ((Region.before ops).getD (ops.size-1) 0) dF.as {hp:=st.h.hp,nx:=st.h.nx+ops.size,mw:=st.h.mw} r0 rs0) with
    |false=>rw [hc] at hv;cases hv
    |true=>
     rw [hc,cond_true] at hv
     cases hv
     simp only [Bool.and_eq_true] at hc
     obtain ⟨D,T,c⟩:=LP _ _ _ _ hdr
     have X:Ctx P G ih rd st.sz ops _ st.h.nx _ dF D T:=⟨c,hN,hI,hb.1,hb.2,rfl,rfl,rfl,hs.hr.bound⟩
     have hlast:D ops.size=dF:=by rw [←c.last];simp
     have hpos:0<ops.size:=by
      rcases Nat.eq_zero_or_pos ops.size with h|h
      ·rw [h] at hlast
       rw [←hlast,c.first] at BL;cases BL
      ·exact h
     have hsz:ops.size-1+1=ops.size:=by omega
     generalize hsd:ops.size-1=s at*
     have hDs:D (s+1)=dF:=by rw [hsz];exact hlast
     obtain ⟨os,hos⟩:=mK (ops:=ops) (i:=s) (by omega)
     have hstep:=c.step' hos
     obtain ⟨r1,hr1⟩:=IY hstep
     rw [hDs,BL] at hr1
     have hrs:rs0=(D s).rs:=(List.cons.inj hr1).2
     unfold wW at hc
     obtain ⟨hrec,hl⟩:=hc
     split at hl
     ·rename_i df1 h1 t hk1 htg
      simp only [Bool.and_eq_true] at hl
      obtain ⟨l1,l2,l3⟩:=hl
      rcases dx hstep with h|⟨v,h⟩|⟨v,ob,h⟩|⟨rv,hact⟩
      ·have e1:=h.eq;rw [hDs] at e1;rw [e1] at BL;have e2:=(List.cons.inj BL).1;rw [←e2] at hk1;cases hk1
      ·have e1:=h.eq;rw [hDs] at e1;rw [e1] at BL;have e2:=(List.cons.inj BL).1;rw [←e2] at hk1;cases hk1
      ·have e1:=h.eq;rw [hDs] at e1;rw [e1] at BL;have e2:=(List.cons.inj BL).1;rw [←e2] at hk1;cases hk1
      ·have e1:=hact.eq
       rw [hDs] at e1
       have e2:r0=⟨s,os,(D s).tm,.acts rv.df rv.h,rv.v⟩:=by rw [e1] at BL;exact (List.cons.inj BL).1.symm
       rw [e2] at htg
       subst hrs
       have hall:=List.all_eq_true.1 l1
       have hT0:aP dF.rs []=aP (D s).rs []++[⟨s,rv.df,rv.h⟩]:=by rw [BL,pI,e2]
       have ahw:aP dF.rs []=T 0:=by have:=c.stages;simpa [aP] using this
       have hmem:∀ n i,n=i→i≤s→∀ e∈T i,e∈T 0:=by
        intro n
        induction n with
        |zero=>intro i hn _ e he;subst hn;exact he
        |succ n ih2=>
         intro i hn hi e he
         obtain ⟨o',ho'⟩:=mK (ops:=ops) (i:=n) (by omega)
         subst hn
         by_cases hE:Eff D n
         ·exact ih2 n rfl (by omega) e (by rw [c.act ho' hE];exact List.mem_cons_of_mem _ he)
         ·exact ih2 n rfl (by omega) e (by rw [(c.quiet ho' hE).2.2.2];exact he)
       have hwr:∀ i,i≤s→∃ x,(D i).h.write G t.1 t.2.1 t.2.2=some x:=by
        intro i
        induction i with
        |zero=>
         intro _
         have:=hall _ List.mem_cons_self
         rw [c.first]
         exact Option.isSome_iff_exists.1 this
        |succ i ih2=>
         intro hi
         obtain ⟨o',ho'⟩:=mK (ops:=ops) (i:=i) (by omega)
         by_cases hE:Eff D i
         ·have h1:(⟨i,(D (i+1)).df,(D (i+1)).h⟩:eG)∈T 0:=hmem i i rfl (by omega) _ (by rw [c.act ho' hE];exact List.mem_cons_self)
          rw [←ahw,hT0] at h1
          rcases List.mem_append.1 h1 with h1|h1
          ·have:=hall (D (i+1)).h (List.mem_cons_of_mem _ (List.mem_map.2 ⟨_,h1,rfl⟩))
           exact Option.isSome_iff_exists.1 this
          ·have h2:=List.mem_singleton.1 h1
           have:i=s:=congrArg eG.i h2
           omega
         ·rw [(c.quiet ho' hE).2.1];exact ih2 (by omega)
       have F:Float P G ih rd st.sz ops _ st.h.nx _ dF D T s t os rv:=⟨X,hsz,fun j hj=>by
        have e':¬(s=j):=fun x=>hj x.symm
        simp [e'],hrec,hos,hact,htg,hwr,l2,l3⟩
       obtain ⟨ρ1,I0⟩:=start X hs
       obtain ⟨l',M',a',w',⟨p,tm,ρ',hor⟩,LY,hst⟩:=aao hb.1 (b:=b) (k:=k) (cs:=cs) (Two G st.sz ops st.h.nx _ dF D s t st.h ρ w)
        (by rintro l M a w ⟨p,tm,ρ,⟨I,_⟩|⟨I,_⟩⟩<;>exact I.size) (by rintro l M a w ⟨p,tm,ρ,⟨I,_⟩|⟨I,_⟩⟩<;>exact I.bits)
        (F.one hrd hk) ops.size (w.tape w.drawn (.order b.fn id)) _ 0 a _ ⟨0,_,ρ1,.inl ⟨I0,Nat.zero_testBit s⟩⟩ (Nat.le_trans (List.length_filter_le _ _) (by simp))
       rcases hor with ⟨_,h⟩|⟨I2,hps,_⟩
       ·rw [LY s (by omega)] at h;cases h
       ·obtain ⟨e3,e4⟩:=c.still hps (by omega) (fun e h1 h2 h3=>by have:=(I2.stage e (by omega) ⟨h3,by omega⟩).1 (LY e (by omega));omega)
        obtain ⟨x1,hx1⟩:=hwr s (Nat.le_refl _)
        have hK:(qB G t D s).K p=x1:=by show fU G t (D p).h=x1;rw [←e3];exact vH hx1
        have hsr:=qA htg hact.run
        obtain ⟨y,hy1,hy2⟩:=uB hx1 _ (D s).as
        have hye:=hy1.symm.trans hsr.1
        cases hye
        have ahx:dF.df=(D p).df:=by rw [e1,←e4];exact hsr.2.2.1
        have hhF:dF.h=rv.h:=by rw [e1]
        have Bu:∀ x∈(D s).as,x∈dF.as:=c.made s (by simp;omega)
        obtain ⟨n1,m1,g1⟩:=aK M' x1 dF.as
        obtain ⟨n2,m2,g2⟩:=aK (2^ops.size-1) dF.h dF.as
        obtain ⟨n3,m3,g3⟩:=aK (((Region.before ops).setIfInBounds s (2^s-1)).getD s 0) x1 (D s).as
        have hfull:∀ q,q<ops.size→Nat.testBit M' q=Nat.testBit (2^ops.size-1) q:=fun q hq=>by rw [LY q hq,Nat.testBit_two_pow_sub_one];simp [hq]
        have hsame:Same (aI M' x1 dF.as) (aI (2^ops.size-1) dF.h dF.as):=by
         refine ⟨by rw [n1,n2,hhF,←n3];exact hy2.nx.symm,by rw [m1,m2,hhF,←m3];exact hy2.mw.symm,fun i=>?_⟩
         rw [g1,g2,hhF,←hy2.get,g3]
         have ef:fV M' dF.as i=fV (2^ops.size-1) dF.as i:=mV (fun q o hq=>hfull q (X.T9.1 _ _ _ hq).1)
         rw [←ef]
         cases hz:x1.hp.get i with
         |some z=>rfl
         |none=>
          simp only [Option.none_or]
          cases hf:fV (((Region.before ops).setIfInBounds s (2^s-1)).getD s 0) (D s).as i with
          |none=>rfl
          |some z=>
           obtain ⟨q,hq1,_⟩:=om hf
           have hq2:=Bu _ hq1
           simp only [Option.some_or]
           exact (Ag X.T9.2 hq2 (LY q (X.T9.1 _ _ _ hq2).1)).symm
        have aeD:=I2.hr
        have aeE:=I2.tr
        have aeF:=I2.df
        have abM:=I2.trr
        rw [hK] at aeD aeE abM aeF
        refine ⟨a',ρ',w',⟨aeD.congr hsame,?_,I2.asz,?_⟩,abM.congr hsame,Steps.head stepR_region_draw ?_⟩
        ·intro t2 v ht2
         have h1:tm.get t2=dF.tm.get t2:=by
          rw [I2.tm t2,DX c rfl ops.size (Nat.le_refl _) (fun i _ hi _ _=>LY i hi),hlast]
         obtain ⟨v',h2,h3⟩:=aeE t2 v (by rw [h1];exact ht2)
         exact ⟨v',h2,by show VR (aI (2^ops.size-1) dF.h dF.as).nx ρ' v v';rw [hsame.nx,n1];exact h3⟩
        ·show L2 (ru (aI (2^ops.size-1) dF.h dF.as).nx ρ') dF.df a'.defers
         rw [hsame.nx,n1,ahx];exact aeF
        ·simp only [Region.schedule,hm,Bool.true_or,if_true]
         exact hst
     ·cases hl
   ·cases hv
  ·cases hv
theorem Xk (hm:P.follows .mixedOrders=true) (hN:dV P) {ih:Task→Option (List Out)} (hI:IH P G ih):OY P G ih:=by
 intro rd ops st st' hv
 unfold jM at hv
 split at hv
 ·rename_i s hs
  cases hv
  exact acF hm hN hI rd ops st _ hs
 ·exact Xj hm hN hI rd ops st st' hv
end Go.CE
namespace Go.CE
open Go Go.RowKit
variable [aa]
variable {P:Program} {G:Nat}
noncomputable def Xl (v:Value):Out→Bool
 | .call x _=>Dg 8 v x
 | .code _ _=>false
structure Quiet (w w':World):Prop where
 os:w'.os=w.os
 tape:w'.tape=w.tape
 output:w'.output=w.output
 size:w.heap.size≤w'.heap.size
 block:∀ b,b<w.heap.size→w'.heap[b]? =w.heap[b]?
def Xm (hp:TH) (G:Nat) (w:World):Prop:=
 (∀ i,G≤i→hp.get i=none)∧∀ i o,hp.get i=some o→∃ cs c e fz,o= .cells cs∧w.heap[i]? =some (.cells c e fz)∧cs.length≤c.size∧(fz.1=fz.2∨c.size≤fz.1)∧
   ∀ (j:Nat) x,cs[j]? =some x→af 8 x=true∧c[j]? =some x
end Go.CE
