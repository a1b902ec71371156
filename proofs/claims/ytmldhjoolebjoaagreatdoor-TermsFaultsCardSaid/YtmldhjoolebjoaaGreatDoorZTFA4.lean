/-
  The texts CeC of this claim, one behind the other.
-/
import Derived.Test.YtmldhjoolebjoaaGreatDoorZTFA3
import Derived.KernelRfl
import Derived.AtR
import Derived.RangeFuncIn
import Derived.RangeFuncNested
import Derived.Defers
namespace Go.CE
open Go Go.RowKit
variable [aa]
variable {P:Program} {G:Nat} {h:H} {ρ:Ren} {w:World} {tm:TV} {tmps:Array Value}
theorem HR.move {w':World} (a:HR G h ρ w) {i:Nat} {o:aJ} (hi:h.hp.get i=some o) (hG:G≤i) (o':aJ) {ob:Obj} (x:Nat×Nat)
 (hs:w'.heap.size=w.heap.size) (hb:∀ b,b≠(ρ i).1→w'.heap[b]? =w.heap[b]?) (hn:w'.heap[(ρ i).1]? =some ob) (hos:w'.os=w.os) (ht:w'.tape=w.tape) (hout:w'.output=w.output) (hx:x.1≤x.2)
 (ho:jV (h.nx+1) (upd ρ h.nx ((ρ i).1,x)) h.nx o' ob):
 HR G ((h.put i none).new o') (upd ρ h.nx ((ρ i).1,x)) w'∧Tr G h ((h.put i none).new o') ρ (upd ρ h.nx ((ρ i).1,x)) w w':=by
 have hin:=(a.obj i o hi).1
 have hget:∀ j,((h.put i none).new o').hp.get j=if j=h.nx then some o' else if j=i then none else h.hp.get j:=by
  intro j
  show ((h.put i none).hp.set h.nx (some o')).get j=_
  rw [TH.fT]
  by_cases e:j=h.nx
  ·rw [if_pos e,if_pos e]
  ·rw [if_neg e,if_neg e];exact TH.fT _ _ _ _
 have hnx:((h.put i none).new o').nx=h.nx+1:=rfl
 have hag:Agree h.nx ρ (upd ρ h.nx ((ρ i).1,x)):=lu _ _ _
 have hnone:h.hp.get h.nx=none:=by
  cases hc:h.hp.get h.nx with
  |none=>rfl
  |some y=>have:=(a.obj _ _ hc).1.1;omega
 constructor
 ·refine ⟨?_,?_,?_,?_⟩
  ·intro j y hy
   rw [hget] at hy
   by_cases e:j=h.nx
   ·subst e;rw [if_pos rfl] at hy;cases hy
    exact ⟨⟨Nat.lt_succ_self _,by rw [upd_same];exact hx⟩,ob,by rw [upd_same];exact hn,ho⟩
   ·rw [if_neg e] at hy
    by_cases e2:j=i
    ·rw [if_pos e2] at hy;cases hy
    ·rw [if_neg e2] at hy
     obtain ⟨hj,VH,h1,h2⟩:=a.obj j y hy
     refine ⟨hj.mono (Nat.le_succ _) hag,VH,?_,h2.mono hj (Nat.le_succ _) hag⟩
     rw [aS _ e,hb _ (fun e'=>e2 (a.inj j i (dP hy) (dP hi) e'))];exact h1
  ·intro j k hj hk e
   rw [hget] at hj hk
   by_cases ej:j=h.nx<;>by_cases ek:k=h.nx
   ·rw [ej,ek]
   ·subst ej
    rw [if_neg ek] at hk
    rw [upd_same,aS _ ek] at e
    by_cases e2:k=i
    ·rw [if_pos e2] at hk;exact absurd rfl hk
    ·rw [if_neg e2] at hk;exact absurd (a.inj k i hk (dP hi) e.symm) e2
   ·subst ek
    rw [if_neg ej] at hj
    rw [upd_same,aS _ ej] at e
    by_cases e2:j=i
    ·rw [if_pos e2] at hj;exact absurd rfl hj
    ·rw [if_neg e2] at hj;exact absurd (a.inj j i hj (dP hi) e) e2
   ·rw [if_neg ej] at hj;rw [if_neg ek] at hk
    rw [aS _ ej,aS _ ek] at e
    refine a.inj j k ?_ ?_ e
    ·intro hq;apply hj;split<;>simp_all
    ·intro hq;apply hk;split<;>simp_all
  ·intro g hg
   have hbd:=a.bound
   rw [aS _ (by omega)]
   exact a.jI g hg
  ·exact Nat.le_succ_of_le a.bound
 ·refine ⟨Nat.le_succ _,hag,hos,ht,hout,by rw [hs];exact Nat.le_refl _,?_,?_,?_,?_,?_,fun i hi=>aS _ (by omega)⟩
  ·intro b _ hno;exact hb b (fun e=>hno i hG (dP hi) e.symm)
  ·intro j hj hl
   rw [hget] at hl
   by_cases e:j=h.nx
   ·subst e;rw [upd_same];exact .inl ⟨i,hG,dP hi,rfl⟩
   ·rw [if_neg e] at hl
    rw [aS _ e]
    refine .inl ⟨j,hj,?_,rfl⟩
    intro hq;apply hl;split<;>simp_all
  ·show (bif Nat.ble i h.mw then i else h.mw)≤h.mw
   cases hc:Nat.ble i h.mw with
   |true=>exact Nat.le_of_ble_eq_true hc
   |false=>exact Nat.le_refl _
  ·intro j hj hm
   rw [hget,if_neg (by have:=hj.1;omega),if_neg]
   intro e;subst e
   have:j<(bif Nat.ble j h.mw then j else h.mw):=hm
   cases hc:Nat.ble j h.mw with
   |true=>rw [hc] at this;exact absurd this (Nat.lt_irrefl _)
   |false=>
    rw [hc] at this
    have h1:j<h.mw:=this
    have h2:=Nat.ble_eq_true_of_le (Nat.le_of_lt h1)
    rw [hc] at h2;cases h2
  ·intro j hj;have:=a.bound;rw [hget,if_neg (by omega),if_neg (by omega)]
omit [aa] in
theorem TF (L:Nat):∀ r c,c≤L+(L+768)/4→Builtin.growBy L r c≤L+(L+768)/4:=by
 intro r
 induction r with
 |zero=>intro c hc;exact hc
 |succ r ih=>
  intro c hc
  simp only [Builtin.growBy]
  split
  ·exact hc
  ·exact ih _ (by omega)
omit [aa] in
theorem nextslicecap_le {L c:Nat} (h:c<L):Builtin.nextslicecap L c≤2*L+768:=by
 unfold Builtin.nextslicecap
 split
 ·omega
 ·split
  ·omega
  ·have:=TF L 4 c (by omega);omega
theorem IQ {n:Nat} {x x':Value} {m:Nat} (hl:Tg x=some m) (hx:VR n ρ x x') (w:World):(Builtin.lenOf x').run P w= .ok m w:=by
 unfold Tg at hl
 split at hl
 ·cases hl;cases hx<;>rfl
 ·cases hl;cases hx;rfl
 ·cases hl
theorem w9 (hr:HR G h ρ w) {size n:Nat} {x x':Value} {new:List Value} (hc:cellsOf h size n x=some new) (hx:VR h.nx ρ x x'):
 ∃ new',V2 h.nx ρ new new'∧∀ w0,w0.heap=w.heap→(Builtin.firstCells size n x').run P w0= .ok new'.toArray w0:=by
 unfold cellsOf at hc
 split at hc
 ·rename_i i k ln cp
  cases hx with
  |slice _ _ _ _ c' hi hcap=>
   obtain ⟨_,l',h1,_,h3,h4,h2⟩:=yC (P:=P) hr hc
   refine ⟨l',h1,fun w0 hw=>?_⟩
   have:=run_loadCells_list (P:=P) w0 ⟨(ρ i).1,(ρ i).2.1+k,none⟩ l' (fun j v hj=>by
    rw [jb,←h4 j v hj];unfold World.cell?;rw [hw])
   rw [h3] at this
   simp [Builtin.firstCells,this]
 ·cases hc;cases hx;exact ⟨[],L2.nil,fun _ _=>rfl⟩
 ·rename_i s
  cases hc;cases hx
  refine ⟨(s.data.toList.take n).map fun b=> .int .u8 b.toNat,⟨rfl,fun i x y hx hy=>?_⟩,fun w0 _=>?_⟩
  ·rw [hx] at hy;cases hy
   obtain ⟨b,_,rfl⟩:=List.mem_map.1 (List.mem_of_getElem? hx)
   exact .int _ _
  ·simp only [Builtin.firstCells,Sem.run_pure]
   congr 1
   apply Array.toList_inj.1
   simp [ByteArray.data_extract]
 ·cases hc
end Go.CE
namespace Go.CE
open Go Go.RowKit
variable [aa]
variable {P:Program} {G:Nat} {h:H} {ρ:Ren} {w:World} {tm:TV} {tmps:Array Value}
def jN (_P:Program) (_w:World) (elem:TypeId) (size sLen n:Nat) (base:Option Addr) (sCap:Nat) (s _x:Value) (new:List Value) (z:Value):Sem Value:=
 if sLen+n≤sCap then do
  if let some a:=base then storeCells (a.add (sLen*size)) new
  pure (.slice base (sLen+n) sCap)
 else do
  let newCap ←choose (.appendCap (sLen+n) sCap elem)
  let old ←Builtin.firstCells size sLen s
  pure (.slice (some (←newRow elem (old++new.toArray++Builtin.zeroCells z.cells (newCap-(sLen+n))))) (sLen+n) newCap)
omit [aa] in
theorem OU {st xt elem:TypeId} {d:TypeDesc} {i:TypeInfo} {base:Option Addr} {sLen sCap size n:Nat} {x z:Value} {new:List Value} {ty:TypeId}
 (hs:P.underlying st=some (.slice elem)) (hx:P.underlying xt=some d) (hd:∀ k,d≠ .int k) (hi:P.info? elem=some i) (hsz:dU P elem=some size) (hz:mI P elem=some z)
 (hn:∀ w,(Builtin.lenOf x).run P w= .ok n w) (hf:∀ w',w'.heap=w.heap→(Builtin.firstCells size n x).run P w'= .ok new.toArray w')
 (Rm:sLen+n≤1048576) (hb:i.bytes≤1048576) (ho:¬(sLen+n≤sCap)→∀ w',w'.heap=w.heap→∃ old,(Builtin.firstCells size sLen (.slice base sLen sCap)).run P w'= .ok old w'):
 (Builtin.append_ #[st,xt] ty #[.slice base sLen sCap,x]).run P w=(jN P w elem size sLen n base sCap (.slice base sLen sCap) x new z).run P w:=by
 have hti:∀ w,(typeInfo elem).run P w= .ok i w:=fun w=>by simp [typeInfo,hi]
 have TG:=fun w=>(j4 hz w).1
 have e0:(#[st,xt]:Array TypeId)[0]? =some st:=rfl
 have e1:(#[st,xt]:Array TypeId)[1]? =some xt:=rfl
 have e2:(#[.slice base sLen sCap,x]:Array Value)[0]? =some (.slice base sLen sCap):=rfl
 have e3:(#[.slice base sLen sCap,x]:Array Value)[1]? =some x:=rfl
 by_cases hle:sLen+n≤sCap
 ·cases d
  case int k=>exact absurd rfl (hd k)
  all_goals
   simp only [Builtin.append_,jN,e0,e1,e2,e3,Sem.run_bind,run_underlying hs,run_underlying hx,Result.andThen,bI hsz,Sem.run_pure,Bool.false_eq_true,if_false,hn,if_pos hle,Bool.not_false,if_true,hf w rfl]
   cases base<;>rfl
 ·have h1:¬(((sLen+n:Nat):Int)>IntKind.i64.max):=by
   have:IntKind.i64.max=9223372036854775807:=rfl
   omega
  have h1':¬(((sLen+n:Nat):Int)>IntKind.i64.max∧(False∨i.bytes=0)):=fun h=>h1 h.1
  have h2:¬(Builtin.nextslicecap (sLen+n) sCap*i.bytes>2^48):=by
   have h3:=nextslicecap_le (L:=sLen+n) (c:=sCap) (by omega)
   have h4:Builtin.nextslicecap (sLen+n) sCap*i.bytes≤2097920*1048576:=Nat.mul_le_mul (by omega) hb
   have:(2:Nat)^48=281474976710656:=rfl
   omega
  obtain ⟨old,hold⟩:=ho hle {w with drawn:=w.drawn+1} rfl
  have hnew:=hf {w with drawn:=w.drawn+1} rfl
  have hfo:(Question.appendCap (sLen+n) sCap elem).forced=false:=rfl
  cases d
  case int k=>exact absurd rfl (hd k)
  all_goals
   simp only [Builtin.append_,jN,e0,e1,e2,e3,Sem.run_bind,run_underlying hs,run_underlying hx,Result.andThen,bI hsz,Sem.run_pure,Bool.false_eq_true,if_false,hn,if_neg hle,Bool.not_false,if_true,hti,h1',if_neg h2,run_choose,hfo,run_askRoom,hold,hnew,TG]
omit [aa] in
theorem add_add (b o k j:Nat):(⟨b,o+k,none⟩:Addr).add j=⟨b,o+(k+j),none⟩:=by rw [jb,Nat.add_assoc]
omit [aa] in
theorem DC (z:Value) (n:Nat):(Builtin.zeroCells z.cells n).size=n*z.cells.size:=by simp [Builtin.zeroCells]
theorem aad {m:Nat} {σ:Ren} {id:Nat} {cs cs':List Value} (e:TypeId) {b:Nat} (r:Array Value) (hv:V2 m σ cs cs') (hid:σ id=(b,0,(cs'.toArray++r).size)):jV m σ id (.cells cs) (.cells (cs'.toArray++r) e (0,0)):=by
 refine .cells cs _ e (0,0) (by rw [hid]) (by rw [hid];have:=hv.1;simp [this]) ?_ (.inl rfl)
 intro j x hx
 obtain ⟨y,h1,h2⟩:=hv.get hx
 refine ⟨y,?_,h2⟩
 have hj:j<cs'.length:=(List.getElem?_eq_some_iff.1 h1).1
 rw [hid,Nat.zero_add,Array.getElem?_append_left (by simpa using hj)]
 simpa using h1
theorem DD (hr:HR G h ρ w) {elem:TypeId} {size need:Nat} {cs cs':List Value} {z:Value} (hv:V2 h.nx ρ cs cs') (hlen:cs'.length=need*size) (hzs:z.cells.size=size) (Rm:need≤1048576) (cap:Nat) (hcap:need≤cap):
 VR (h.nx+1) (upd ρ h.nx (w.heap.size,0,(cs'.toArray++Builtin.zeroCells z.cells (cap-need)).size)) (.slice (some ⟨h.nx,0,none⟩) need (mH need size)) (.slice (some ⟨w.heap.size,0,none⟩) need cap)∧
 HR G (h.new (.cells cs)) (upd ρ h.nx (w.heap.size,0,(cs'.toArray++Builtin.zeroCells z.cells (cap-need)).size)) (w.alloc (.cells (cs'.toArray++Builtin.zeroCells z.cells (cap-need)) elem (0,0)))∧
 Tr G h (h.new (.cells cs)) ρ (upd ρ h.nx (w.heap.size,0,(cs'.toArray++Builtin.zeroCells z.cells (cap-need)).size)) w (w.alloc (.cells (cs'.toArray++Builtin.zeroCells z.cells (cap-need)) elem (0,0))):=by
 have hsz:(cs'.toArray++Builtin.zeroCells z.cells (cap-need)).size=cap*size:=by
  rw [Array.size_append,DC,hzs]
  simp only [List.size_toArray,hlen]
  rw [←Nat.add_mul];congr 1;omega
 refine ⟨vE (Nat.lt_succ_self _) (upd_same _ _ _) (yE (by omega) hcap (by rw [hsz];omega)),?_⟩
 exact hr.new (.cells cs) _ _ (aad elem _ (V2.mono' hv (Nat.le_succ _) (lu _ _ _)) (upd_same _ _ _))
end Go.CE
namespace Go.CE
open Go Go.RowKit
variable [aa]
variable {P:Program} {G:Nat} {h:H} {ρ:Ren} {w:World} {tm:TV} {tmps:Array Value}
omit [aa] in
theorem TI {s:Sem Value} {v:Value} {w':World} (hs:s.run P w= .ok v w'):(do pure (.value (←s)):Sem Next).run P w= .ok (.value v) w':=by
 rw [Sem.run_bind,hs];rfl
theorem jc {h':H} {v:Value} {s:Sem Value} {v':Value} {ρ':Ren} {w':World} (hrun:s.run P w= .ok v' w') (hv:VR h'.nx ρ' v v') (hh:HR G h' ρ' w') (ht:Tr G h h' ρ ρ' w w'):
 TC P G h h' ρ w v (do pure (.value (←s))):=⟨.value v',v',ρ',w',TI hrun,.inl rfl,hv,hh,ht⟩
theorem Lm (hr:HR G h ρ w) {elem:TypeId} {size n sLen c:Nat} {new new':List Value} {base:Option Addr} {v z x':Value} {h':H} (hv:yu G h size n new base sLen c=some (v,h'))
 {s':Value} (hs:VR h.nx ρ (.slice base sLen c) s') (hnew:V2 h.nx ρ new new') (hlen:new.length=n*size) (Rm:sLen+n≤1048576) (_hzr:mI P elem=some z) (hzs:z.cells.size=size)
 (_hz0:0<size):
 ∃ base' c',s'= .slice base' sLen c'∧(∀ w',w'.heap=w.heap→∃ old,(Builtin.firstCells size sLen s').run P w'= .ok old w'∨sLen+n≤c')∧
   ∃ v' ρ' w',(jN P w elem size sLen n base' c' s' x' new' z).run P w= .ok v' w'∧VR h'.nx ρ' v v'∧HR G h' ρ' w'∧Tr G h h' ρ ρ' w w':=by
 have hlen':new'.length=n*size:=by rw [←hnew.1];exact hlen
 unfold yu at hv
 split at hv
 ·rename_i i k
  cases hs with
  |slice _ _ _ _ c' hi hcap=>
   have hle:jK c≤c':=by
    unfold mJ at hcap
    by_cases hc:iO c=true
    ·rw [if_pos hc] at hcap;omega
    ·rw [if_neg hc] at hcap;exact hcap.1
   refine ⟨_,c',rfl,?_⟩
   cases hb:Nat.ble (sLen+n) (jK c) with
   |true=>
    rw [hb,cond_true] at hv
    have hfit:sLen+n≤c':=by have:=Nat.le_of_ble_eq_true hb;omega
    refine ⟨fun _ _=>⟨#[],.inr hfit⟩,?_⟩
    split at hv
    ·rename_i h1 hw
     cases hv
     obtain ⟨hnx,w',r1,r2,r3⟩:=Dy (P:=P) hr hw hnew
     refine ⟨.slice (some ⟨(ρ i).1,(ρ i).2.1+k,none⟩) (sLen+n) c',ρ,w',?_,?_,r2,r3⟩
     ·unfold jN
      rw [if_pos hfit]
      simp only [Sem.run_bind,add_add,r1,Result.andThen,Sem.run_pure]
     ·rw [hnx];exact .slice i k _ c c' hi hcap
    ·cases hv
   |false=>
    rw [hb,cond_false] at hv
    unfold abI at hv
    split at hv
    ·rename_i old hold
     obtain ⟨_,old',o1,o2,o3,o4,o5⟩:=yC (P:=P) hr hold
     cases hq:(new.all oneCell&&(iO c||(Nat.beq (lH c) size&&Nat.ble G i))) with
     |false=>rw [hq] at hv;cases hv
     |true=>
      rw [hq,cond_true] at hv
      simp only [Bool.and_eq_true,Bool.or_eq_true] at hq
      have hcs:V2 h.nx ρ (old++new) (old'++new'):=o1.append hnew
      have hcl:(old'++new').length=(sLen+n)*size:=by rw [List.length_append,o3,hlen',Nat.add_mul]
      have DF:∀ w',w'.heap=w.heap→(Builtin.firstCells size sLen (.slice (some ⟨(ρ i).1,(ρ i).2.1+k,none⟩) sLen c')).run P w'= .ok old'.toArray w':=by
       intro w' hw'
       have hr':HR G h ρ w':=hr.drew hw'
       have:=run_loadCells_list (P:=P) w' ⟨(ρ i).1,(ρ i).2.1+k,none⟩ old' (fun j v hj=>by
        rw [jb,←o4 j v hj];unfold World.cell?;rw [hw'])
       rw [o3] at this
       exact this
      refine ⟨fun w' hw'=>⟨_,.inl (DF w' hw')⟩,?_⟩
      by_cases hfit:sLen+n≤c'
      ·
       have hex:iO c=false:=by
        cases hc:iO c with
        |false=>rfl
        |true=>
         unfold mJ at hcap;rw [if_pos hc] at hcap
         have:=Nat.ble_eq_true_of_le (show sLen+n≤jK c by omega)
         rw [hb] at this;cases this
       rw [hex,cond_false] at hv;cases hv
       have hq2:Nat.beq (lH c) size=true∧Nat.ble G i=true:=by
        rcases hq.2 with h1|h1
        ·rw [hex] at h1;cases h1
        ·exact h1
       have hsz:=beq_true hq2.1
       have hG:G≤i:=Nat.le_of_ble_eq_true hq2.2
       unfold mJ at hcap
       rw [if_neg (by rw [hex];simp)] at hcap
       obtain ⟨cs,hcells⟩:∃ cs,h.cells i=some cs:=by
        unfold H.read at hold
        cases hcc:h.cells i with
        |none=>rw [hcc] at hold;cases hold
        |some cs=>exact ⟨cs,rfl⟩
       have hget:=nX hcells
       obtain ⟨_,ob,ji,iD⟩:=hr.obj i _ hget
       cases iD with
       |cells _ ca e fz hz hl hcv hf=>
        have hone:∀ v∈new',v.oneCell'=true:=by
         intro v hv'
         obtain ⟨j,hj⟩:=List.getElem?_of_mem hv'
         have hjl:j<new.length:=by rw [hnew.1];exact (List.getElem?_eq_some_iff.1 hj).1
         exact Dx (hnew.2 j new[j] v (List.getElem?_eq_getElem hjl) hj) (List.all_eq_true.1 hq.1 _ (List.getElem_mem hjl))
        have hroom:(ρ i).2.1+k+(sLen+n)*size≤ca.size:=by
         have h1:(sLen+n)*size≤c'*size:=Nat.mul_le_mul_right _ hfit
         rw [hsz] at hcap
         omega
        obtain ⟨w',c2,r1,r2,r3,r4,r5,r6,r7,r8,r9⟩:=wE (P:=P) (o:=(ρ i).2.1+(k+sLen*size)) new' 0 ca w ji hf hone (by rw [hlen'];rw [Nat.add_mul] at hroom;omega)
        have hmv:=hr.move (w':=w') hget hG (.cells (old++new)) ((ρ i).2.1+k,(ρ i).2.2) r5 r6 r2 r7 r8 r9 (by show (ρ i).2.1+k≤(ρ i).2.2;rw [←hz];omega) (by
         refine .cells _ c2 e fz (by rw [upd_same,r3];exact hz) (by rw [upd_same,r3];simp only [List.length_append,o2,hlen];rw [←Nat.add_mul];exact hroom) ?_ (by rw [r3];exact hf)
         intro j y hy
         rw [upd_same]
         dsimp only
         obtain ⟨y',g1,g2⟩:=hcs.get hy
         refine ⟨y',?_,g2.mono (Nat.le_succ _) (lu _ _ _)⟩
         rw [r4]
         by_cases hj:j<old'.length
         ·rw [if_neg (by rw [o3] at hj;omega)]
          rw [List.getElem?_append_left hj] at g1
          have:=o4 j y' g1
          rw [IC ji] at this
          exact this
         ·rw [List.getElem?_append_right (by omega)] at g1
          have hjl:j-old'.length<new'.length:=(List.getElem?_eq_some_iff.1 g1).1
          rw [if_pos (by rw [o3] at hj hjl;omega),←g1]
          congr 1;rw [o3];omega)
        refine ⟨.slice (some ⟨(ρ i).1,(ρ i).2.1+k,none⟩) (sLen+n) c',_,w',?_,?_,hmv.1,hmv.2⟩
        ·unfold jN
         rw [if_pos hfit]
         simp only [Sem.run_bind,add_add,r1,Result.andThen,Sem.run_pure]
        ·have:=VR.slice (n:=h.nx+1) (ρ:=upd ρ h.nx ((ρ i).1,(ρ i).2.1+k,(ρ i).2.2)) h.nx 0 (sLen+n) (mH (sLen+n) size) c' ⟨Nat.lt_succ_self _,by rw [upd_same];show (ρ i).2.1+k≤(ρ i).2.2;rw [←hz];omega⟩ (by
          rw [upd_same];exact yE (by omega) hfit (by rw [hsz] at hcap;exact hcap.2))
         rw [upd_same] at this
         exact this
      ·
       have DJ:sLen+n≤(Question.appendCap (sLen+n) c' elem).cut (w.tape w.drawn (.appendCap (sLen+n) c' elem)):=Nat.le_add_right _ _
       have yK:(Question.appendCap (sLen+n) c' elem).forced=false:=rfl
       generalize hqq:(Question.appendCap (sLen+n) c' elem).cut (w.tape w.drawn (.appendCap (sLen+n) c' elem))=cap at DJ
       have aae:=DF {w with drawn:=w.drawn+1} rfl
       have hrun:(jN P w elem size sLen n (some ⟨(ρ i).1,(ρ i).2.1+k,none⟩) c' (.slice (some ⟨(ρ i).1,(ρ i).2.1+k,none⟩) sLen c') x' new' z).run P w=
        .ok (.slice (some ⟨w.heap.size,0,none⟩) (sLen+n) cap) (({w with drawn:=w.drawn+1}:World).alloc (.cells ((old'++new').toArray++Builtin.zeroCells z.cells (cap-(sLen+n))) elem (0,0))):=by
        unfold jN
        rw [if_neg hfit]
        simp only [Sem.run_bind,run_choose,yK,Bool.false_eq_true,if_false,hqq,Result.andThen,aae,newRow,run_newObj,Sem.run_pure]
        have hta:old'.toArray++new'.toArray=(old'++new').toArray:=by simp
        rw [hta]
        rfl
       cases hc:iO c with
       |true=>
        rw [hc,cond_true] at hv;cases hv
        have hr1:HR G h ρ {w with drawn:=w.drawn+1}:=hr.drew rfl
        obtain ⟨g1,g2,g3⟩:=DD hr1 (elem:=elem) hcs hcl hzs Rm cap DJ
        exact ⟨_,_,_,hrun,g1,g2,(Tr.drew (w:=w) (w':={w with drawn:=w.drawn+1}) G h ρ rfl rfl rfl rfl).trans g3⟩
       |false=>
        rw [hc,cond_false] at hv;cases hv
        obtain ⟨d1,d2⟩:=hr.drop i (by
         rcases hq.2 with h1|h1
         ·rw [hc] at h1;cases h1
         ·exact Nat.le_of_ble_eq_true h1.2)
        have hr1:HR G (h.put i none) ρ {w with drawn:=w.drawn+1}:=d1.drew rfl
        obtain ⟨g1,g2,g3⟩:=DD hr1 (elem:=elem) (h:=h.put i none) hcs hcl hzs Rm cap DJ
        exact ⟨_,_,_,hrun,g1,g2,(d2.trans (Tr.drew (w:=w) (w':={w with drawn:=w.drawn+1}) G _ ρ rfl rfl rfl rfl)).trans g3⟩
    ·cases hv
 ·cases hq:(Nat.beq sLen 0&&Nat.beq c 0) with
  |false=>rw [hq] at hv;cases hv
  |true=>
   rw [hq,cond_true] at hv
   simp only [Bool.and_eq_true] at hq
   obtain rfl:=beq_true hq.1
   obtain rfl:=beq_true hq.2
   cases hs
   have DF:∀ w',(Builtin.firstCells size 0 (.slice none 0 0)).run P w'= .ok #[] w':=fun w'=>rfl
   refine ⟨none,0,rfl,fun w' _=>⟨#[],.inl (DF w')⟩,?_⟩
   cases hn:Nat.beq n 0 with
   |true=>
    rw [hn,cond_true] at hv;cases hv
    obtain rfl:=beq_true hn
    exact ⟨.slice none 0 0,ρ,w,rfl,.kG 0 0,hr,Tr.refl _ _ _ _⟩
   |false=>
    rw [hn,cond_false] at hv;cases hv
    have hn0:¬(n=0):=fun e=>by subst e;cases hn
    have DJ:0+n≤(Question.appendCap (0+n) 0 elem).cut (w.tape w.drawn (.appendCap (0+n) 0 elem)):=Nat.le_add_right _ _
    have yK:(Question.appendCap (0+n) 0 elem).forced=false:=rfl
    generalize hqq:(Question.appendCap (0+n) 0 elem).cut (w.tape w.drawn (.appendCap (0+n) 0 elem))=cap at DJ
    have hrun:(jN P w elem size 0 n none 0 (.slice none 0 0) x' new' z).run P w=
     .ok (.slice (some ⟨w.heap.size,0,none⟩) (0+n) cap) (({w with drawn:=w.drawn+1}:World).alloc (.cells (new'.toArray++Builtin.zeroCells z.cells (cap-(0+n))) elem (0,0))):=by
     unfold jN
     rw [if_neg (by omega)]
     simp only [Sem.run_bind,run_choose,yK,Bool.false_eq_true,if_false,hqq,Result.andThen,DF,newRow,run_newObj,Sem.run_pure,Array.empty_append]
     rfl
    have hr1:HR G h ρ {w with drawn:=w.drawn+1}:=hr.drew rfl
    rw [Nat.zero_add] at DJ hrun
    obtain ⟨g1,g2,g3⟩:=DD hr1 (elem:=elem) hnew hlen' hzs (by omega) cap DJ
    exact ⟨_,_,_,hrun,g1,g2,(Tr.drew (w:=w) (w':={w with drawn:=w.drawn+1}) G h ρ rfl rfl rfl rfl).trans g3⟩
 ·cases hv
end Go.CE
namespace Go.CE
open Go Go.RowKit Go.Extern
variable [aa]
variable {P:Program} {G:Nat} {h:H} {ρ:Ren} {w:World}
end Go.CE
namespace Go.CE
open Go Go.RowKit Go.Extern
variable [aa]
variable {P:Program} {G:Nat} {h:H} {ρ:Ren} {w:World}
theorem TJ {g:FuncId} {fn:Func} {args args':List Value} {r:LR} (_hg:P.funcs[g]? =some fn) (_hb:fn.body=none) (_hr:HR G h ρ w) (_hG:P.globals.size<G) (_ho:fn.origin= "") (hv:Dm P G h fn args=some r) (_ha:V2 h.nx ρ args args'):
 mU P G h ρ w (callFunc g args'.toArray) r:=by
 unfold Dm at hv
 cases hv
end Go.CE
namespace Go.CE
open Go Go.RowKit
variable [aa]
variable {P:Program} {G:Nat} {h:H} {ρ:Ren} {w:World} {tm:TV} {tmps:Array Value}
def dV (P:Program):Prop:=∀ (g:Nat) (fn:Func),P.funcs[g]? =some fn→fn.body.isSome=true→(fn.name== "runtime.NumGoroutine")=false
omit [aa] in
theorem ry (hN:dV P) {g:FuncId} {fn:Func} {c:Code} (hg:P.funcs[g]? =some fn) (hb:fn.body=some c) (args:Array Value) (w:World):(callFunc g args).run P w= .ok (.enter g args) w:=by
 have h1:=hN g fn hg (by rw [hb];rfl)
 simp only [callFunc,Sem.run_bind,run_program,Result.andThen,hg,h1,hb,Option.isNone_some,Bool.false_eq_true,if_false,Sem.run_pure]
section
variable (hr:HR G h ρ w) (ht:TR h.nx ρ tm tmps)
include hr ht
omit ht in
theorem OV {st xt ty:TypeId} {s x s' x' v:Value} {h':H} (hv:yw P G h st xt s x=some (v,h')) (hs:VR h.nx ρ s s') (hx:VR h.nx ρ x x'):
 TC P G h h' ρ w v (do pure (.value (←Builtin.append_ #[st,xt] ty #[s',x']))):=by
 unfold yw at hv
 split at hv
 ·cases hv
 ·rename_i elem d base sLen c n aej hst hxt hn
  split at hv
  ·rename_i size z hsz hz
   cases hb:(Nat.beq z.cells.size size&&Nat.blt 0 size&&Nat.ble (sLen+n) 1048576&&Nat.ble ((P.info? elem).elim 0 (·.bytes)) 1048576) with
   |false=>rw [hb] at hv;cases hv
   |true=>
    rw [hb,cond_true] at hv
    simp only [Bool.and_eq_true] at hb
    obtain ⟨⟨⟨b1,b2⟩,b3⟩,b4⟩:=hb
    have b4:=Nat.le_of_ble_eq_true b4
    split at hv
    ·rename_i new hnew
     cases hl:Nat.beq new.length (n*size) with
     |false=>rw [hl] at hv;cases hv
     |true=>
      rw [hl,cond_true] at hv
      obtain ⟨new',hv2,hf⟩:=w9 (P:=P) hr hnew hx
      obtain ⟨base',c',rfl,hold,v',ρ',w',r1,r2,r3,r4⟩:=Lm (P:=P) (elem:=elem) (x':=x') hr hv hs hv2 (beq_true hl) (Nat.le_of_ble_eq_true b3) hz (beq_true b1) (Nat.le_of_ble_eq_true b2)
      obtain ⟨i,hi,hib⟩:∃ i,P.info? elem=some i∧i.bytes≤1048576:=by
       unfold dU at hsz
       cases hi:P.info? elem with
       |none=>rw [hi] at hsz;cases hsz
       |some i=>rw [hi] at b4;exact ⟨i,rfl,b4⟩
      refine jc ?_ r2 r3 r4
      rw [OU (ty:=ty) hst hxt (fun k e=>aej k e) hi hsz hz (fun w=>IQ hn hx w) hf (Nat.le_of_ble_eq_true b3) hib (fun hle w0 hw0=>?_)]
      ·exact r1
      ·obtain ⟨old,ho|ho⟩:=hold w0 hw0
       ·exact ⟨old,ho⟩
       ·exact absurd ho hle
    ·cases hv
  ·cases hv
 ·cases hv
omit hr ht in
omit [aa] in
theorem L2.eraseIdx {α β:Type} {R:α→β→Prop}:∀ {l:List α} {m:List β} (_:L2 R l m) (i:Nat),L2 R (l.eraseIdx i) (m.eraseIdx i)
 |[],m,hl,i=>by rw [hl.bZ];exact L2.nil
 |a::l,m,hl,i=>by
  obtain ⟨b,t,rfl,hab,ht⟩:=hl.aL
  cases i with
  |zero=>exact ht
  |succ i=>exact L2.cons hab (ht.eraseIdx i)
omit ht in
theorem WQ {t ty:TypeId} {ats:Array TypeId} {d x d' x':Value} {r:LR} (hv:Gv P G h t d x=some r) (hd:VR h.nx ρ d d') (hx:VR h.nx ρ x x') (hat:ats[0]? =some t):
 mU P G h ρ w (do pure (.value (←Builtin.copy_ ats ty #[d',x']))) r:=by
 unfold Gv at hv
 split at hv
 ·rename_i elem base dLen c n ht0 hn
  split at hv
  ·rename_i size hsz
   have e2:(#[d',x']:Array Value)[0]? =some d':=rfl
   have e3:(#[d',x']:Array Value)[1]? =some x':=rfl
   split at hv
   ·rename_i new i k hnew
    obtain ⟨new',hv2,hf⟩:=w9 (P:=P) hr hnew hx
    split at hv
    ·rename_i h' hw
     cases hv
     obtain ⟨hnx,w',r1,r2,r3⟩:=Dy (P:=P) hr hw hv2
     cases hd
     refine jc (v':= .int .i64 (min n dLen:Nat)) (w':=w') ?_ (.int _ _) r2 r3
     have hmin:Nat.min n dLen=min n dLen:=rfl
     simp only [Builtin.copy_,hat,e2,e3,Sem.run_bind,run_underlying ht0,Result.andThen,IQ hn hx,bI hsz,hmin,hf w rfl,r1,Sem.run_pure,goInt]
    ·cases hv
   ·rename_i hnew
    cases hv
    obtain ⟨new',hv2,hf⟩:=w9 (P:=P) hr hnew hx
    cases hd
    refine jc (v':= .int .i64 (min n dLen:Nat)) (w':=w) ?_ (.int _ _) hr (Tr.refl _ _ _ _)
    have hmin:Nat.min n dLen=min n dLen:=rfl
    simp only [Builtin.copy_,hat,e2,e3,Sem.run_bind,run_underlying ht0,Result.andThen,IQ hn hx,bI hsz,hmin,hf w rfl,Sem.run_pure,goInt]
   ·cases hv
  ·cases hv
 ·cases hv
omit ht in
theorem OW {t ty:TypeId} {ats:Array TypeId} {m k m' k':Value} {r:LR} (hv:vz P G h t m k=some r) (hm:VR h.nx ρ m m') (vk:VR h.nx ρ k k') (hat:ats[0]? =some t):
 mU P G h ρ w (do pure (.value (←Builtin.delete_ ats ty #[m',k']))) r:=by
 unfold vz at hv
 split at hv
 ·rename_i kt et r0 es clock hu hma
  obtain ⟨rfl,h1,hG⟩:=Aa hma
  obtain ⟨es',ji,hl,hlt⟩:=nY hr h1 rfl
  have hgo:=run_getObj_map (P:=P) ji
  cases hm
  have e2:(#[.map (some (ρ r0).1),k']:Array Value)[0]? =some (.map (some (ρ r0).1)):=rfl
  have e3:(#[.map (some (ρ r0).1),k']:Array Value)[1]? =some k':=rfl
  have hem:es'.isEmpty=es.isEmpty:=by
   have h2:es.length=es'.size:=by rw [←Array.length_toList];exact hl.1
   rw [Bool.eq_iff_iff,Array.isEmpty_iff,List.isEmpty_iff,←Array.size_eq_zero_iff,←List.length_eq_zero_iff,←h2]
  cases hf:oO P es.isEmpty kt k es with
  |none=>rw [hf] at hv;cases hv
  |some f=>
   obtain ⟨rfl,f1,fall,r',f2,f3,f4⟩:=yH hf vk hl w
   rw [hf] at hv
   cases f with
   |some i=>
    simp only at hv;cases hv
    cases r' with
    |none=>cases f3
    |some jv=>
     obtain ⟨j,v0⟩:=jv
     simp only [Option.map_some,Option.some.injEq] at f3;subst f3
     have hl2:L2 (oI h.nx ρ) (es.eraseIdx j) (es'.eraseIdxIfInBounds j).toList:=by
      rw [Array.toList_eraseIdxIfInBounds];exact hl.eraseIdx j
     obtain ⟨p1,p2,p3⟩:=oW (P:=P) hr h1 hG hl2 clock
     refine jc (v':= .tuple #[]) ?_ (VR.tuple' L2.nil) p2 p3
     simp only [Builtin.delete_,hat,e2,e3,Sem.run_bind,run_underlying hu,Result.andThen,hgo,hem,f1,f2,p1,Sem.run_pure]
   |none=>
    simp only at hv;cases hv
    cases r' with
    |some jv=>cases f3
    |none=>
     obtain ⟨p1,p2,p3⟩:=oW (P:=P) hr h1 hG hl clock
     refine jc (v':= .tuple #[]) ?_ (VR.tuple' L2.nil) p2 p3
     simp only [Builtin.delete_,hat,e2,e3,Sem.run_bind,run_underlying hu,Result.andThen,hgo,hem,f1,f2,p1,Sem.run_pure]
 ·cases hv
omit ht in
theorem TK {t ty:TypeId} {ats:Array TypeId} {m m':Value} {r:LR} (hv:zX P G h t m=some r) (hm:VR h.nx ρ m m') (hat:ats[0]? =some t):
 mU P G h ρ w (do pure (.value (←Builtin.clear_ ats ty #[m']))) r:=by
 unfold zX at hv
 split at hv
 ·rename_i kt et r0 es clock hu hma
  cases hv
  obtain ⟨rfl,h1,hG⟩:=Aa hma
  obtain ⟨es',ji,hl,hlt⟩:=nY hr h1 rfl
  have hgo:=run_getObj_map (P:=P) ji
  cases hm
  have e2:(#[.map (some (ρ r0).1)]:Array Value)[0]? =some (.map (some (ρ r0).1)):=rfl
  obtain ⟨p1,p2,p3⟩:=oW (P:=P) hr h1 hG (fs:=[]) (fs':=#[]) L2.nil clock
  refine jc (v':= .tuple #[]) ?_ (VR.tuple' L2.nil) p2 p3
  simp only [Builtin.clear_,hat,e2,Sem.run_bind,run_underlying hu,Result.andThen,hgo,p1,Sem.run_pure]
 ·cases hv
omit hr ht in
theorem mU.congr {s s':Sem Next} {r:LR} (h1:s'.run P w=s.run P w) (hl:mU P G h ρ w s r):mU P G h ρ w s' r:=by
 cases r<;>simp only [mU,TC,h1] at hl ⊢ <;>exact hl
omit hr ht in
omit [aa] in
theorem yL {c:Call} {o:Oper} (ho:o.op= .call c):(execOp (ak tmps) o).run P w=(do let d ←resolve (ak tmps) c o.type;invoke d.target d.args).run P w:=by
 simp only [execOp,ho]
omit hr ht in
omit [aa] in
theorem BK {b:Builtin} {args:Array Operand} {ats:Array TypeId} {o:Oper} (ho:o.op= .call {callee:= .builtin b,args:=args,argTypes:=ats}):
 ∃ cs,(execOp (ak tmps) o).run P w=(builtin b ats o.type cs (args.map (ak tmps))).run P w:=
 ⟨_,by rw [yL ho];simp only [resolve,Sem.run_bind,Sem.run_pure,Result.andThen,invoke];rfl⟩
theorem Lp {b:Builtin} {args:Array Operand} {ats:Array TypeId} {rd:Option Nat} {r:LR} (hv:qm P G rd tm h b args ats=some r) (ty:TypeId) (cs:Array Bool):
 mU P G h ρ w (builtin b ats ty cs (args.map (ak tmps))) r∧(r= .recover→rd=none):=by
 have hargs:∀ l,dY G tm args.toList=some l→V2 h.nx ρ l (args.map (ak tmps)).toList:=by
  intro l hl
  have:=jm hr ht _ _ hl
  rwa [Array.toList_map]
 unfold qm at hv
 split at hv
 ·rename_i s x t u hl hT
  have h2:=hargs _ hl
  obtain ⟨s',m1,e1,hs,h2⟩:=h2.aL
  obtain ⟨x',m2,rfl,hx,h2⟩:=h2.aL
  obtain rfl:=h2.bZ
  rw [Array.toList_inj.1 (e1:(args.map (ak tmps)).toList=(#[s',x']:Array Value).toList),Array.toList_inj.1 (hT:ats.toList=(#[t,u]:Array TypeId).toList)]
  split at hv
  ·rename_i v h' ha
   cases hv
   exact ⟨OV (ty:=ty) hr ha hs hx,fun e=>by cases e⟩
  ·cases hv
 ·rename_i d x t u hl hT
  have h2:=hargs _ hl
  obtain ⟨s',m1,e1,hs,h2⟩:=h2.aL
  obtain ⟨x',m2,rfl,hx,h2⟩:=h2.aL
  obtain rfl:=h2.bZ
  rw [Array.toList_inj.1 (e1:(args.map (ak tmps)).toList=(#[s',x']:Array Value).toList)]
  refine ⟨WQ (ty:=ty) hr hv hs hx (by rw [←Array.getElem?_toList,hT];rfl),fun e=>?_⟩
  subst e;unfold Gv at hv
  split at hv
  ·split at hv
   ·split at hv
    ·split at hv<;>cases hv
    ·cases hv
    ·cases hv
   ·cases hv
  ·cases hv
 ·rename_i m k t u hl hT
  have h2:=hargs _ hl
  obtain ⟨s',m1,e1,hs,h2⟩:=h2.aL
  obtain ⟨x',m2,rfl,hx,h2⟩:=h2.aL
  obtain rfl:=h2.bZ
  rw [Array.toList_inj.1 (e1:(args.map (ak tmps)).toList=(#[s',x']:Array Value).toList)]
  refine ⟨OW (ty:=ty) hr hv hs hx (by rw [←Array.getElem?_toList,hT];rfl),fun e=>?_⟩
  subst e;unfold vz at hv
  split at hv
  ·split at hv<;>cases hv
  ·cases hv
 ·rename_i m t u hl hT
  have h2:=hargs _ hl
  obtain ⟨s',m1,e1,hs,h2⟩:=h2.aL
  obtain rfl:=h2.bZ
  rw [Array.toList_inj.1 (e1:(args.map (ak tmps)).toList=(#[s']:Array Value).toList)]
  refine ⟨TK (ty:=ty) hr hv hs (by rw [←Array.getElem?_toList,hT];rfl),fun e=>?_⟩
  subst e;unfold zX at hv
  split at hv<;>cases hv
 ·split at hv
  ·cases hv;exact ⟨rfl,fun _=>rfl⟩
  ·cases hv
 ·cases hv
theorem TL {rd:Option Nat} {c:Call} {o:Oper} (ho:o.op= .defer c) {r:LR} (hv:Dl G rd tm c=some r):mU P G h ρ w (execOp (ak tmps) o) r∧rd=none:=by
 obtain ⟨callee,args,ats⟩:=c
 unfold Dl at hv
 split at hv
 ·rename_i f hc
  simp only at hc;subst hc
  split at hv
  ·rename_i g first captured as hf ha
   cases hv
   have vf:=av hr ht hf
   have va:=jm hr ht _ _ ha
   refine ⟨?_,rfl⟩
   have hex:(execOp (ak tmps) o)=(do pure (.defer (←resolve (ak tmps) {callee:= .value f,args:=args,argTypes:=ats} o.type))):=by simp only [execOp,ho]
   rw [hex]
   simp only at va
   simp only [resolve]
   generalize ak tmps f=f' at vf
   cases vf with
   |func _ _ a' _ b' l1 r1 l2 r2=>
    refine ⟨_,by simp only [Deferred.ofValue,Sem.run_bind,Sem.run_pure,Result.andThen];rfl,?_,?_⟩
    ·simp only [Array.toList_append,Array.toList_map]
     exact L2.append (R:=VR h.nx ρ) ⟨l1,r1⟩ (by simpa using va)
    ·exact .inr ⟨g,captured,b',rfl,rfl,l2,r2⟩
  ·cases hv
 ·cases hv
omit hr ht in
theorem OX {g:FuncId} {args args':List Value} {r:LR} (hr:HR G h ρ w) (hv:vw P h g args=some r) (ha:V2 h.nx ρ args args'):mU P G h ρ w (callFunc g args'.toArray) r:=by
 unfold vw at hv
 cases hb:args.all (af 6) with
 |false=>rw [hb] at hv;cases hv
 |true=>
  rw [hb,cond_true] at hv
  have e:args=args':=L2.eq ha fun x y hxy hx=>(nW 6 _ _ (List.all_eq_true.1 hb x hx) hxy).symm
  subst e
  split at hv
  ·rename_i v hp
   cases hc:af 6 v with
   |false=>rw [hc] at hv;cases hv
   |true=>
    rw [hc,cond_true] at hv;cases hv
    exact ⟨.value v,v,ρ,w,fD hp w,.inl rfl,eO 6 v hc,hr,Tr.refl _ _ _ _⟩
  ·cases hv
omit hr ht in
theorem WR (hN:dV P) {g:FuncId} {args args':List Value} {r:LR} (hr:HR G h ρ w) (hv:Gu P G h g args=some r) (ha:V2 h.nx ρ args args'):mU P G h ρ w (callFunc g args'.toArray) r:=by
 unfold Gu at hv
 split at hv
 ·rename_i fn hg
  split at hv
  ·rename_i c hb
   cases hv
   exact ⟨args'.toArray,ry hN hg hb _ w,by simpa using ha⟩
  ·rename_i hb
   split at hv
   ·rename_i r' he
    cases hv
    exact OX hr he ha
   ·cases hc:(Nat.blt P.globals.size G&&fn.origin== "") with
    |false=>rw [hc] at hv;cases hv
    |true=>
     rw [hc,cond_true] at hv
     simp only [Bool.and_eq_true] at hc
     exact TJ hg hb hr (Nat.le_of_ble_eq_true hc.1) (eq_of_beq hc.2) hv ha
 ·cases hv
theorem WS (hN:dV P) {f:Operand} {args:Array Operand} {ats:Array TypeId} {o:Oper} (ho:o.op= .call {callee:= .value f,args:=args,argTypes:=ats}) {r:LR} (hv:Bl P G tm h f args=some r):
 mU P G h ρ w (execOp (ak tmps) o) r:=by
 unfold Bl at hv
 split at hv
 ·rename_i fn first captured as hf ha
  have vf:=av hr ht hf
  have va:=jm hr ht _ _ ha
  have hex:=yL (P:=P) (w:=w) (tmps:=tmps) ho
  simp only [resolve] at hex
  generalize ak tmps f=f' at vf hex
  split at hv
  ·rename_i g
   cases vf with
   |func _ _ a' _ b' l1 r1 l2 r2=>
    have h2:V2 h.nx ρ (first.toList++as++captured.toList) (a'.toList++(args.map (ak tmps)).toList++b'.toList):=by
     rw [Array.toList_map]
     exact (L2.append (R:=VR h.nx ρ) ⟨l1,r1⟩ va).append ⟨l2,r2⟩
    refine mU.congr ?_ (WR hN hr hv h2)
    rw [hex]
    simp only [Deferred.ofValue,Sem.run_bind,Sem.run_pure,Result.andThen,invoke]
    congr 2
    apply Array.toList_inj.1
    simp
  ·rename_i l
   cases hb:(first.isEmpty&&captured.isEmpty) with
   |false=>rw [hb] at hv;cases hv
   |true=>
    rw [hb,cond_true] at hv;cases hv
    cases vf with
    |yield _ hi=>
     refine ⟨hi,(args.map (ak tmps)),?_,by rw [Array.toList_map];exact va⟩
     rw [hex]
     simp only [Deferred.ofValue,Sem.run_bind,Sem.run_pure,Result.andThen,invoke,Array.empty_append]
  ·cases hv
 ·cases hv
omit hr ht in
omit [aa] in
theorem pF {s:Sem Value} {w w':World}:(do pure (.value (←s)):Sem Next).run P w≠ .ok .recover w':=by
 rw [Sem.run_bind]
 cases s.run P w with
 |ok v w1=>simp [Result.andThen]
 |halt e w1=>simp [Result.andThen]
omit hr ht in
omit [aa] in
theorem lK {s:Sem Unit} {w w':World}:(do s;pure .skip:Sem Next).run P w≠ .ok .recover w':=by
 rw [Sem.run_bind]
 cases s.run P w with
 |ok v w1=>simp [Result.andThen]
 |halt e w1=>simp [Result.andThen]
omit hr ht in
omit [aa] in
theorem Lr {g:FuncId} {args:List Value}:vw P h g args≠some .recover:=by
 intro hv
 unfold vw at hv
 cases hb:List.all args (af 6) with
 |false=>rw [hb] at hv;cases hv
 |true=>
  rw [hb,cond_true] at hv
  split at hv
  ·rename_i v _
   cases hc:af 6 v with
   |false=>rw [hc] at hv;cases hv
   |true=>rw [hc] at hv;cases hv
  ·cases hv
omit hr ht in
omit [aa] in
theorem TM {f:Operand} {args:Array Operand}:Bl P G tm h f args≠some .recover:=by
 intro hv
 unfold Bl at hv
 split at hv
 ·split at hv
  ·unfold Gu at hv
   split at hv
   ·split at hv
    ·cases hv
    ·split at hv
     ·rename_i he;cases hv;exact Lr he
     ·generalize (Nat.blt P.globals.size G&&_)=c at hv
      cases c with
      |false=>cases hv
      |true=>
       rw [cond_true] at hv
       unfold Dm at hv
       cases hv
   ·cases hv
  ·rename_i first captured _ _ _ _ _
   cases hb:(first.isEmpty&&captured.isEmpty) with
   |false=>rw [hb] at hv;cases hv
   |true=>rw [hb] at hv;cases hv
  ·cases hv
 ·cases hv
theorem aaf (hN:dV P) {rd:Option Nat} (o:Oper) {r:LR} (hv:FI P G rd tm h o.op=some r):
 mU P G h ρ w (execOp (ak tmps) o) r∧(r= .recover→rd=none)∧(∀ c,o.op= .defer c→rd=none):=by
 have pull:∀ {s:Sem Next},mU P G h ρ w s r→execOp (ak tmps) o=s→mU P G h ρ w (execOp (ak tmps) o) r:=fun h1 he=>by rw [he];exact h1
 cases ho:o.op<;>rw [ho] at hv<;>simp only [FI] at hv
 case store t a x=>
  have h1:=TD (P:=P) (w:=w) hr ht hv
  exact ⟨pull h1 (by simp only [execOp,ho]),fun e=>by subst e;exact absurd h1 lK,fun c e=>by cases e⟩
 case convert s d x=>
  have h1:=Ll (P:=P) (w:=w) hr ht hv
  exact ⟨pull h1 (by simp only [execOp,ho]),fun e=>by subst e;exact absurd h1 pF,fun c e=>by cases e⟩
 case mapUpdate t m k x=>
  have h1:=wF (P:=P) (w:=w) hr ht hv
  exact ⟨pull h1 (by simp only [execOp,ho]),fun e=>by subst e;exact absurd h1 lK,fun c e=>by cases e⟩
 case insert t m k x=>
  have h1:=wF (P:=P) (w:=w) hr ht hv
  exact ⟨pull h1 (by simp only [execOp,ho]),fun e=>by subst e;exact absurd h1 lK,fun c e=>by cases e⟩
 case mapEntry t m k=>
  have h1:=IP (P:=P) (w:=w) hr ht hv
  exact ⟨pull h1 (by simp only [execOp,ho]),fun e=>by subst e;exact absurd h1 pF,fun c e=>by cases e⟩
 case entryStore t m s x=>
  have h1:=Dz (P:=P) (w:=w) (t:=t) hr ht hv
  exact ⟨pull h1 (by simp only [execOp,ho]),fun e=>by subst e;exact absurd h1 lK,fun c e=>by cases e⟩
 case range t x=>
  have h1:=TE (P:=P) (w:=w) hr ht hv
  exact ⟨pull h1 (by simp only [execOp,ho]),fun e=>by subst e;exact absurd h1 pF,fun c e=>by cases e⟩
 case defer c=>
  obtain ⟨h1,h2⟩:=TL (P:=P) (w:=w) hr ht ho hv
  exact ⟨h1,fun _=>h2,fun _ _=>h2⟩
 case call c=>
  obtain ⟨callee,args,ats⟩:=c
  unfold uh at hv
  split at hv
  ·rename_i f hc
   simp only at hc;subst hc
   exact ⟨WS hr ht hN ho hv,fun e=>by subst e;exact absurd hv TM,fun c e=>by cases e⟩
  ·rename_i b hc
   simp only at hc;subst hc
   obtain ⟨cs,he⟩:=BK (P:=P) (w:=w) (tmps:=tmps) ho
   obtain ⟨h1,h2⟩:=Lp (P:=P) (w:=w) hr ht hv o.type cs
   exact ⟨mU.congr he h1,h2,fun c e=>by cases e⟩
  ·cases hv
 all_goals cases hv
end
end Go.CE
namespace Go.CE
open Go Go.RowKit
variable [aa]
variable {P:Program} {G:Nat} {h:H} {ρ:Ren} {w:World} {tm:TV} {tmps:Array Value}
omit [aa] in
theorem L2.filter {α β:Type} {R:α→β→Prop} {p:α→Bool} {q:β→Bool} (hpq:∀ x y,R x y→p x=q y):∀ {l:List α} {m:List β},L2 R l m→L2 R (l.filter p) (m.filter q)
 |[],m,hl=>by rw [hl.bZ];exact L2.nil
 |a::l,m,hl=>by
  obtain ⟨b,t,rfl,hab,ht⟩:=hl.aL
  have:=L2.filter hpq ht
  rw [List.filter_cons,List.filter_cons,hpq a b hab]
  split
  ·exact L2.cons hab this
  ·exact this
omit [aa] in
theorem aag (seen:List Nat) (b:Nat):(seen.reverse.toArray).contains b=seen.any fun x=>Nat.beq x b:=by
 rw [Bool.eq_iff_iff]
 simp only [Array.contains_iff_mem,List.mem_toArray,List.mem_reverse,List.any_eq_true]
 constructor
 ·intro hm;exact ⟨b,hm,by show Nat.beq b b=true;exact Nat.beq_refl b⟩
 ·rintro ⟨x,hx,e⟩;rw [←beq_true e];exact hx
theorem DK {n:Nat} {ρ:Ren} (p:Nat→Bool):∀ {l m:List MapEntry},L2 (oI n ρ) l m→m.all (fun e=>p e.born)=l.all (fun e=>p e.born)
 |[],m,hl=>by rw [hl.bZ]
 |a::l,m,hl=>by
  obtain ⟨b,t,rfl,hab,ht⟩:=hl.aL
  rw [List.all_cons,List.all_cons,hab.2.2,DK p ht]
section
variable (hr:HR G h ρ w) (ht:TR h.nx ρ tm tmps)
include hr ht
theorem WT {x:Operand} {str:Bool} {l:List (Value×H)} (hv:K7 G tm h x str=some l) (ty:TypeId):
 ∃ p∈l,TC P G h p.2 ρ w p.1 (do pure (.value (←Instr.next (ak tmps x) str ty))):=by
 unfold K7 at hv
 split at hv
 ·rename_i r hx
  have vx:=av hr ht hx
  generalize ak tmps x=x' at vx
  cases vx with
  |ptr _ _ hrn=>
   split at hv
   ·rename_i s pos hg
    cases hb:Nat.ble G r with
    |false=>rw [hb] at hv;cases hv
    |true=>
     rw [hb,cond_true] at hv;cases hv
     have hG:G≤r:=Nat.le_of_ble_eq_true hb
     obtain ⟨_,ob,ji,iD⟩:=hr.obj r _ hg
     have hlt:=hr.lt hg
     cases iD with
     |text _ _ h0=>
      have hgo:(getObj (ρ r).1).run P w= .ok (.stringIter s pos) w:=by simp [getObj,Sem.run,ji]
      rw [h0]
      unfold K6
      by_cases hp:pos<s.size
      ·have hbl:Nat.blt pos s.size=true:=Nat.ble_eq_true_of_le hp
       rw [hbl,cond_true]
       refine ⟨_,List.mem_singleton.2 rfl,?_⟩
       obtain ⟨s1,s2,s3⟩:=lZ (o':= .stringIter s (pos+(Utf8.decode s pos).2)) hlt
       obtain ⟨p2,p3⟩:=hr.put (w':={w with heap:=w.heap.setIfInBounds (ρ r).1 (.stringIter s (pos+(Utf8.decode s pos).2))}) hg hG (.text s (pos+(Utf8.decode s pos).2)) s1 s3 s2 rfl rfl rfl (.text _ _ h0)
       refine jc (v':= .tuple #[.bool true,.int .i64 pos,.int .i32 (Utf8.decode s pos).1]) ?_ (VR.tuple' (L2.cons (.bool _) (L2.cons (.int _ _) (L2.cons (.int _ _) L2.nil)))) p2 p3
       simp only [Instr.next,Sem.run_bind,Result.andThen,hgo,Nat.add_zero,if_pos hp,og ji (fun _ _ _=>by simp),Sem.run_pure,goInt]
      ·have hbl:Nat.blt pos s.size=false:=by
        cases hq:Nat.blt pos s.size with
        |false=>rfl
        |true=>exact absurd (Nat.le_of_ble_eq_true hq) hp
       rw [hbl,cond_false]
       refine ⟨_,List.mem_singleton.2 rfl,jc (v':= .tuple #[.bool false]) ?_ (VR.tuple' (L2.cons (.bool _) L2.nil)) hr (Tr.refl _ _ _ _)⟩
       simp only [Instr.next,Sem.run_bind,Result.andThen,hgo,Nat.add_zero,if_neg hp,Sem.run_pure]
   ·rename_i a c b hg
    cases hv
    obtain ⟨_,ob,ji,iD⟩:=hr.obj r _ hg
    cases iD with
    |GA _ _ _ h0=>
     rw [h0]
     have hgo:(getObj (ρ r).1).run P w= .ok (.mapIter none a c.reverse.toArray b) w:=by simp [getObj,Sem.run,ji]
     refine ⟨_,List.mem_singleton.2 rfl,jc (v':= .tuple #[.bool false]) ?_ (VR.tuple' (L2.cons (.bool _) L2.nil)) hr (Tr.refl _ _ _ _)⟩
     simp only [Instr.next,Sem.run_bind,Result.andThen,hgo,Nat.add_zero,Sem.run_pure]
   ·rename_i m since seen last hg
    obtain ⟨_,ob,ji,iD⟩:=hr.obj r _ hg
    have hlt:=hr.lt hg
    cases iD with
    |walk _ _ _ _ hm h0=>
     rw [h0]
     have hgo:(getObj (ρ r).1).run P w= .ok (.mapIter (some (ρ m).1) since seen.reverse.toArray last) w:=by simp [getObj,Sem.run,ji]
     unfold Rh at hv
     split at hv
     ·rename_i es clock hgm
      obtain ⟨es',ahg,hl,_⟩:=nY hr hgm rfl
      have aek:=run_getObj_map (P:=P) ahg
      cases hb:((!seen.isEmpty&& !es.isEmpty&&es.all (fun e=>Nat.ble last e.born))|| !(Nat.ble G r)) with
      |true=>rw [hb] at hv;cases hv
      |false=>
       rw [hb,cond_false] at hv
       simp only [Bool.or_eq_false_iff,Bool.not_eq_false'] at hb
       have hG:G≤r:=Nat.le_of_ble_eq_true hb.2
       have hem:es'.isEmpty=es.isEmpty:=by
        have h2:es.length=es'.size:=by rw [←Array.length_toList];exact hl.1
        rw [Bool.eq_iff_iff,Array.isEmpty_iff,List.isEmpty_iff,←Array.size_eq_zero_iff,←List.length_eq_zero_iff,←h2]
       have hse:seen.reverse.toArray.isEmpty=seen.isEmpty:=by
        rw [Bool.eq_iff_iff,Array.isEmpty_iff,List.isEmpty_iff];simp
       have hall:es'.all (fun e=>decide (e.born≥last))=es.all (fun e=>Nat.ble last e.born):=by
        rw [←Array.all_toList]
        rw [DK (fun b=>decide (b≥last)) hl]
        congr 1;funext e
        rw [Bool.eq_iff_iff,decide_eq_true_iff]
        exact ⟨fun hq=>Nat.ble_eq_true_of_le hq,fun hq=>Nat.le_of_ble_eq_true hq⟩
       have hcond:((!seen.reverse.toArray.isEmpty&& !es'.isEmpty&&es'.all (fun e=>decide (e.born≥last)))=true)=False:=by
        rw [hse,hem,hall,hb.1];simp
       have hleft:L2 (oI h.nx ρ) (leftOf seen es) (es'.filter fun e=> !seen.reverse.toArray.contains e.born).toList:=by
        rw [Array.toList_filter]
        exact hl.filter fun x y hxy=>by rw [aag,hxy.2.2]
       generalize hL:(es'.filter fun e=> !seen.reverse.toArray.contains e.born)=left' at hleft
       cases hc:(leftOf seen es).all (fun e=>Nat.blt e.born since) with
       |false=>rw [hc] at hv;cases hv
       |true=>
        rw [hc,cond_true] at hv
        have hold':∀ e∈left'.toList,e.born<since:=by
         intro e he
         have:=DK (fun b=>Nat.blt b since) hleft
         rw [hc] at this
         exact Nat.le_of_ble_eq_true (List.all_eq_true.1 this e he)
        have hold:left'.filter (fun e=>decide (e.born<since))=left':=by
         apply Array.toList_inj.1
         rw [Array.toList_filter,List.filter_eq_self]
         intro e he;exact decide_eq_true (hold' e he)
        have hnew:left'.filter (fun e=>decide (e.born≥since))= #[]:=by
         apply Array.toList_inj.1
         rw [Array.toList_filter]
         show _=[]
         rw [List.filter_eq_nil_iff]
         intro e he;have:=hold' e he;simp;omega
        have hrun:∀ rest:Sem Value,True:=fun _=>trivial
        cases hle:(leftOf seen es).isEmpty with
        |true=>
         rw [hle,cond_true] at hv;cases hv
         have hnil:left'= #[]:=by
          apply Array.toList_inj.1
          show _=[]
          rw [List.isEmpty_iff] at hle
          rw [hle] at hleft
          exact hleft.bZ
         refine ⟨_,List.mem_singleton.2 rfl,jc (v':= .tuple #[.bool false]) ?_ (VR.tuple' (L2.cons (.bool _) L2.nil)) hr (Tr.refl _ _ _ _)⟩
         have hfo:(Question.mapNext 1).forced=true:=rfl
         subst hnil
         simp only [Instr.next,Sem.run_bind,Result.andThen,hgo,aek,Nat.add_zero,hcond,if_false,hL,hold,hnew]
         simp [hfo]
        |false=>
         rw [hle,cond_false] at hv;cases hv
         have hne:left'.isEmpty=false:=by
          cases hq:left'.isEmpty with
          |false=>rfl
          |true=>
           rw [Array.isEmpty_iff] at hq
           subst hq
           have:=hleft.Gz
           rw [this] at hle;cases hle
         have hpos:0<left'.size:=by
          rw [Array.isEmpty_eq_false_iff] at hne
          exact Array.size_pos_iff.2 hne
         obtain ⟨i,w1,hi,hw1,hch⟩:∃ i w1,i<left'.size∧(w1=w∨w1= {w with drawn:=w.drawn+1})∧(choose (.mapNext left'.size)).run P w= .ok i w1:=by
          rw [run_choose]
          by_cases hf:(Question.mapNext left'.size).forced=true
          ·rw [if_pos hf];exact ⟨0,w,hpos,.inl rfl,rfl⟩
          ·rw [if_neg hf];exact ⟨_,_,Nat.mod_lt _ hpos,.inr rfl,rfl⟩
         have hi':left'.toList[i]? =some left'[i]:=by simp [hi]
         have hil:i<(leftOf seen es).length:=by rw [hleft.1];simpa using hi
         have hrel:=hleft.2 i _ _ (List.getElem?_eq_getElem hil) hi'
         refine ⟨_,List.mem_map.2 ⟨_,List.getElem_mem hil,rfl⟩,?_⟩
         generalize (leftOf seen es)[i]=e at hrel
         generalize hye:left'[i]=e' at hrel hi'
         have hr1:HR G h ρ w1:=by rcases hw1 with rfl|rfl;exact hr;exact hr.drew rfl
         have ht1:Tr G h h ρ ρ w w1:=by rcases hw1 with rfl|rfl;exact Tr.refl _ _ _ _;exact Tr.drew _ _ _ rfl rfl rfl rfl
         have hh1:w1.heap=w.heap:=by rcases hw1 with rfl|rfl<;>rfl
         have ahh:w1.heap[(ρ r).1]? =some (.mapIter (some (ρ m).1) since seen.reverse.toArray last):=by rw [hh1];exact ji
         obtain ⟨s1,s2,s3⟩:=lZ (w:=w1) (o':= .mapIter (some (ρ m).1) since (e.born::seen).reverse.toArray clock) (by rw [hh1];exact hlt)
         obtain ⟨p2,p3⟩:=hr1.put (w':={w1 with heap:=w1.heap.setIfInBounds (ρ r).1 (.mapIter (some (ρ m).1) since (e.born::seen).reverse.toArray clock)}) hg hG (.walk (some m) since (e.born::seen) clock) s1 s3 s2 rfl rfl rfl (.walk m since _ clock hm h0)
         refine jc (v':= .tuple #[.bool true,e'.key,e'.val]) ?_ (VR.tuple' (L2.cons (.bool _) (L2.cons hrel.1 (L2.cons hrel.2.1 L2.nil)))) p2 (ht1.trans p3)
         have hpush:seen.reverse.toArray.push e'.born=(e.born::seen).reverse.toArray:=by rw [hrel.2.2];simp
         have ael:((if left'.isEmpty=true then #[none] else #[])++(left'++#[]).map some:Array (Option MapEntry))=left'.map some:=by rw [hne];simp
         have hcs:(left'.map some).size=left'.size:=by simp
         have hci:(left'.map some)[i]? =some (some e'):=by simp [hi,hye]
         simp only [Instr.next,Sem.run_bind,Result.andThen,hgo,aek,Nat.add_zero,Sem.run_pure,hcond,if_false,hL,hold,hnew,ael,hcs,hch,hci,hpush,og ahh (fun _ _ _=>by simp)]
     ·cases hv
   ·cases hv
 ·cases hv
end
end Go.CE
namespace Go.CE
open Go Go.RowKit
variable [aa]
variable {P:Program} {G:Nat}
omit [aa] in
theorem TN {α β:Type} {f:α→Option (List β)}:∀ {l:List α} {r:List β},oP f l=some r→∀ a∈l,∃ x,f a=some x∧∀ y∈x,y∈r:=by
 intro l
 induction l with
 |nil=>intro r _ a ha;cases ha
 |cons b l ih=>
  intro r hr a ha
  unfold oP at hr
  split at hr
  ·cases hr
  ·rename_i x hx
   split at hr
   ·cases hr
    cases ha with
    |head=>exact ⟨_,hx,fun _ h=>h⟩
    |tail _ h=>cases h
   ·rename_i c l'
    split at hr
    ·cases hr
    ·rename_i y hy
     cases hr
     cases ha with
     |head=>exact ⟨x,hx,fun _ h=>List.mem_append_left _ h⟩
     |tail _ h=>
      obtain ⟨z,hz,hm⟩:=ih hy a h
      exact ⟨z,hz,fun _ h=>List.mem_append_right _ (hm _ h)⟩
omit [aa] in
theorem iI {α β:Type} {f:α→Option (List β)} {o:Option (List α)} {r:List β} (h:iC o f=some r):∃ l,o=some l∧∀ a∈l,∃ x,f a=some x∧∀ y∈x,y∈r:=by
 unfold iC at h
 split at h
 ·cases h
 ·exact ⟨_,rfl,TN h⟩
structure SR (G:Nat) (st:St) (ρ:Ren) (a:Act) (w:World):Prop where
 hr:HR G st.h ρ w
 t:TR st.h.nx ρ st.tm a.tmps
 sz:a.tmps.size=st.sz
 d:L2 (ru st.h.nx ρ) st.df a.defers
def um (n:Nat) (ρ:Ren) (rd:Option Nat) (b:Frame):Prop:=
 match rd with
 |none=>b.roundOf=none
 |some l=>In n ρ l∧b.roundOf=some (ρ l).1∧b.kind= .normal
def jW (k:CallKind) (cs:List Frame):Prop:=k= .normal∨(k= .deferred∧∃ c cs',cs=c::cs'∧c.mode= .returning)
theorem ru.mono {n m:Nat} {ρ σ:Ren} {d d':Deferred} (h:ru n ρ d d') (hn:n≤m) (hσ:Agree n ρ σ):ru m σ d d':=by
 obtain ⟨h1,h2⟩:=h
 refine ⟨V2.mono' h1 hn hσ,?_⟩
 rcases h2 with ⟨b,e1,hb,e2⟩|⟨g,c,c',e1,e2,h3⟩
 ·exact .inl ⟨b,e1,hb.mono hn hσ,by rw [e2,hσ b hb]⟩
 ·exact .inr ⟨g,c,c',e1,e2,V2.mono' h3 hn hσ⟩
omit [aa] in
theorem um.mono {n m:Nat} {ρ σ:Ren} {rd:Option Nat} {b:Frame} (h:um n ρ rd b) (hn:n≤m) (hσ:Agree n ρ σ):um m σ rd b:=by
 cases rd with
 |none=>exact h
 |some l=>exact ⟨h.1.mono hn hσ,by rw [hσ l h.1];exact h.2.1,h.2.2⟩
theorem Tr.df {h h':H} {ρ ρ':Ren} {w w':World} (t:Tr G h h' ρ ρ' w w') {df:List Deferred} {d:List Deferred} (hd:L2 (ru h.nx ρ) df d):L2 (ru h'.nx ρ') df d:=
 hd.mono fun _ _ r=>r.mono t.nx t.agree
theorem vF {n:Nat} {ρ:Ren} {tm:TV} {a:Act} {sz:Nat} (ht:TR n ρ tm a.tmps) (hs:a.tmps.size=sz) {v v':Value} (hv:VR n ρ v v') (dst:Option Tmp):
 TR n ρ (iT sz tm dst v) (a.put dst v').tmps:=by
 cases dst with
 |none=>exact ht
 |some d=>
  intro t x hx
  unfold iT at hx
  cases hb:Nat.blt d sz with
  |false=>
   simp only [hb,cond_false] at hx
   obtain ⟨y,h1,h2⟩:=ht t x hx
   refine ⟨y,?_,h2⟩
   show (a.tmps.setIfInBounds d v')[t]? =some y
   rw [Array.getElem?_setIfInBounds]
   split
   ·rename_i e
    subst e
    have:d<a.tmps.size:=(Array.getElem?_eq_some_iff.1 h1).1
    rw [hs] at this
    have:=Nat.ble_eq_true_of_le this
    exact absurd (hb.symm.trans this) (by simp)
   ·exact h1
  |true=>
   simp only [hb,cond_true] at hx
   rw [TV.fT] at hx
   have hd:d<a.tmps.size:=by rw [hs];exact Nat.le_of_ble_eq_true hb
   by_cases e:t=d
   ·subst e
    rw [if_pos rfl] at hx;cases hx
    refine ⟨v',?_,hv⟩
    show (a.tmps.setIfInBounds t v')[t]? =some v'
    rw [Array.getElem?_setIfInBounds,if_pos rfl,if_pos hd]
   ·rw [if_neg e] at hx
    obtain ⟨y,h1,h2⟩:=ht t x hx
    refine ⟨y,?_,h2⟩
    show (a.tmps.setIfInBounds d v')[t]? =some y
    rw [Array.getElem?_setIfInBounds,if_neg (fun h=>e h.symm)];exact h1
omit [aa] in
theorem uo (a:Act) (dst:Option Tmp) (v:Value):(a.put dst v).tmps.size=a.tmps.size:=by cases dst<;>simp [Act.put]
omit [aa] in
theorem put_defers (a:Act) (dst:Option Tmp) (v:Value):(a.put dst v).defers=a.defers:=by cases dst<;>rfl
omit [aa] in
theorem oh (a:Act):a.eval=ak a.tmps:=funext fun x=>by cases x<;>rfl
def Ends (P:Program) (b:Frame) (cs:List Frame) (m:Machine) (k:List Item) (a:Act) (w:World):Ex→Prop
 | .normal=>Steps P m (lone (b.atR a k) cs w)
 | .exit id=>∃ todo,exitTo id todo=exitTo id k∧Steps P m (lone (b.atR a (.code (.exit id)::todo)) cs w)
 | .ret=>∃ todo,Steps P m (lone (b.atR a (.code .ret::todo)) cs w)
def FM (P:Program) (G:Nat) (c:Code) (rd:Option Nat) (st:St) (outs:List Out):Prop:=
 ∀ b a k cs w ρ,SR G st ρ a w→um st.h.nx ρ rd b→jW b.kind cs→
   ∃ e st',Out.code e st'∈outs∧∃ a' ρ' w',SR G st' ρ' a' w'∧Tr G st.h st'.h ρ ρ' w w'∧Ends P b cs (lone (b.atR a (.code c::k)) cs w) k a' w' e
def Left (P:Program) (fr:Frame) (f:FuncId) (kind:CallKind) (v:Value) (w:World):Prop:=
 fr.mode= .returning∧fr.defers=[]∧fr.kind=kind∧fr.fn=f∧∃ fn,P.funcs[f]? =some fn∧(results fn fr.tmps).run P w= .ok v w
def TP (P:Program) (G:Nat) (f:FuncId) (args:List Value) (h:H) (outs:List Out):Prop:=
 ∀ kind args' cs w ρ,HR G h ρ w→V2 h.nx ρ args args'.toList→jW kind cs→
   ∃ v h',Out.call v h'∈outs∧∃ v' ρ' w' fr,VR h'.nx ρ' v v'∧HR G h' ρ' w'∧Tr G h h' ρ ρ' w w'∧Steps P (lone (Frame.enter P f args' kind) cs w) (lone fr cs w')∧Left P fr f kind v' w'
def Snd (P:Program) (G:Nat):Task→List Out→Prop
 | .code c rd st,outs=>FM P G c rd st outs
 | .call f args h,outs=>TP P G f args h outs
def IH (P:Program) (G:Nat) (ih:Task→Option (List Out)):Prop:=∀ t outs,ih t=some outs→Snd P G t outs
section
variable {b:Frame} {a:Act} {k:List Item} {cs:List Frame} {w w':World} {ops:Array Oper} {i:Nat} {rest:List Nat} {o:Oper}
omit [aa] in
theorem fin_at (ho:ops[i]? =some o) (v:Value):(b.atR a (.inRegion ops (i::rest)::k)).finish v=b.atR (a.put o.dst v) (.inRegion ops rest::k):=by
 rw [Frame.finish_atR,ho];rfl
omit [aa] in
theorem qp (ho:ops[i]? =some o) (hw:Region.wanted o (yielded ops a.tmps)=true) {next:Next} {v:Value} (hs:(o.semAt b.roundOf a.eval).run P w= .ok next w')
 (hn:next= .value v∨(next= .skip∧v=undef)):
 step P (lone (b.atR a (.inRegion ops (i::rest)::k)) cs w)= .next (lone (b.atR (a.put o.dst v) (.inRegion ops rest::k)) cs w'):=by
 have hg:=stepGR_op (P:=P) (b:=b) (k:=k) (cs:=cs) (w:=w) (rest:=rest) ho hw
 rcases hn with rfl|⟨rfl,rfl⟩
 ·exact step_lone_go (by rw [hg,←fin_at ho];simp [stepG.apply,hs])
 ·exact step_lone_go (by rw [hg,←fin_at ho];simp [stepG.apply,hs])
omit [aa] in
theorem Ls (ho:ops[i]? =some o) (hw:Region.wanted o (yielded ops a.tmps)=true) {d:Deferred} (hs:(o.semAt b.roundOf a.eval).run P w= .ok (.defer d) w'):
 step P (lone (b.atR a (.inRegion ops (i::rest)::k)) cs w)= .next (lone (b.atR ({a with defers:=d::a.defers}.put o.dst undef) (.inRegion ops rest::k)) cs w'):=by
 have hg:=stepGR_op (P:=P) (b:=b) (k:=k) (cs:=cs) (w:=w) (rest:=rest) ho hw
 refine step_lone_go ?_
 have:({b.atR a (.inRegion ops (i::rest)::k) with defers:=d::a.defers}:Frame).finish undef=
  b.atR ({a with defers:=d::a.defers}.put o.dst undef) (.inRegion ops rest::k):=by
  have:=Frame.finish_atR b {a with defers:=d::a.defers} ops i rest k undef
  rw [ho] at this;exact this
 rw [hg];simp only [stepG.apply,Sem.runT_eq,hs,GStep.bare_after]
 exact congrArg (fun fr=>GStep.go {frame:=fr,callers:=cs,status:= .running,dying:=none} w') this
omit [aa] in
theorem Lt (ho:ops[i]? =some o) (hw:Region.wanted o (yielded ops a.tmps)=true) {f:FuncId} {args:Array Value} (hs:(o.semAt b.roundOf a.eval).run P w= .ok (.enter f args) w'):
 step P (lone (b.atR a (.inRegion ops (i::rest)::k)) cs w)= .next (lone (Frame.enter P f args .normal) (b.atR a (.inRegion ops (i::rest)::k)::cs) w'):=by
 have hg:=stepGR_op (P:=P) (b:=b) (k:=k) (cs:=cs) (w:=w) (rest:=rest) ho hw
 exact step_lone_go (by rw [hg];simp [stepG.apply,hs,Frame.atR])
omit [aa] in
theorem Lu (ho:ops[i]? =some o) (hw:Region.wanted o (yielded ops a.tmps)=true) {l:Nat} {f:FuncId} {tmps:Array Value} {assign body:Code}
 (hs:(o.semAt b.roundOf a.eval).run P w= .ok (.round l f tmps assign body) w'):
 step P (lone (b.atR a (.inRegion ops (i::rest)::k)) cs w)= .next (lone (Frame.round l f tmps assign body .normal) (b.atR a (.inRegion ops (i::rest)::k)::cs) w'):=by
 have hg:=stepGR_op (P:=P) (b:=b) (k:=k) (cs:=cs) (w:=w) (rest:=rest) ho hw
 exact step_lone_go (by rw [hg];simp [stepG.apply,hs,Frame.atR])
omit [aa] in
theorem FN (ho:ops[i]? =some o) (hw:Region.wanted o (yielded ops a.tmps)=true) (hb:b.roundOf=none) (hk:jW b.kind cs)
 (hs:(o.semAt b.roundOf a.eval).run P w= .ok .recover w'):
 step P (lone (b.atR a (.inRegion ops (i::rest)::k)) cs w)= .next (lone (b.atR (a.put o.dst .nilIface) (.inRegion ops rest::k)) cs w'):=by
 have hg:=stepGR_op (P:=P) (b:=b) (k:=k) (cs:=cs) (w:=w) (rest:=rest) ho hw
 have ht:tryRecover (b.atR a (.inRegion ops (i::rest)::k)) cs=none:=by
  unfold tryRecover
  rcases hk with hk|⟨hk,c,cs',rfl,hc⟩
  ·simp [Frame.atR,hk]
  ·simp [Frame.atR,hk,hc]
 refine step_lone_go ?_
 rw [hg,←fin_at ho]
 rw [hb] at hs
 simp only [Frame.atR,hb] at ht ⊢
 simp [stepG.apply,hs,ht]
omit [aa] in
theorem GH {fr c:Frame} {f:FuncId} {v:Value} (h:Left P fr f .normal v w):step P (lone fr (c::cs) w)= .next (lone (c.finish v) cs w):=
 step_leave_returned (by obtain ⟨h1,h2,h3,h4,fn,h5,h6⟩:=h;exact ⟨h1,h2,h3,fn,by rw [h4];exact h5,h6⟩)
end
end Go.CE
namespace Go.CE
open Go Go.RowKit
variable [aa]
variable {P:Program} {G:Nat}
theorem IU {n:Nat} {ρ:Ren} {sz:Nat}:∀ (l l':List (Tmp×Value)) (tm:TV) (tmps:Array Value),L2 (fun a b=>a.1=b.1∧VR n ρ a.2 b.2) l l'→TR n ρ tm tmps→tmps.size=sz→
 TR n ρ (zY sz l tm) (l'.foldl (fun tmps (x:Tmp×Value)=>tmps.setIfInBounds x.1 x.2) tmps)∧(l'.foldl (fun tmps (x:Tmp×Value)=>tmps.setIfInBounds x.1 x.2) tmps).size=sz:=by
 intro l
 induction l with
 |nil=>intro l' tm tmps hl ht hs;rw [hl.bZ];exact ⟨ht,hs⟩
 |cons x l ih=>
  intro l' tm tmps hl ht hs
  obtain ⟨y,t,rfl,hxy,h2⟩:=hl.aL
  obtain ⟨p,v⟩:=x
  obtain ⟨p',v'⟩:=y
  obtain ⟨e,hv⟩:=hxy
  simp only at e hv
  subst e
  have h1:=vF (a:={tmps:=tmps,defers:=[]}) ht hs hv (some p)
  exact ih t _ _ h2 h1 (by simpa using hs)
theorem aah {n:Nat} {ρ:Ren}:∀ (ps:List Tmp) (vs vs':List Value),V2 n ρ vs vs'→L2 (fun (a b:Tmp×Value)=>a.1=b.1∧VR n ρ a.2 b.2) (ps.zip vs) (ps.zip vs'):=by
 intro ps
 induction ps with
 |nil=>intro vs vs' _;exact L2.nil
 |cons p ps ih=>
  intro vs vs' h
  cases vs with
  |nil=>rw [h.bZ];exact L2.nil
  |cons v vs=>
   obtain ⟨v',t,rfl,hv,h2⟩:=h.aL
   exact L2.cons ⟨rfl,hv⟩ (ih vs t h2)
theorem uq {h:H} {ρ:Ren} {w:World} (hr:HR G h ρ w) {l:Nat} {st:LoopState} {pend:Option Code} {tm:TV} {sz:Nat} {params:Array Tmp} {assign body:Code}
 (hg:h.hp.get l=some (.round st pend tm sz params assign body)):
 ∃ tmps fn d,tmps.size=sz∧TR h.nx ρ tm tmps∧w.heap[(ρ l).1]? =some (.loop {state:=st,pending:=pend,fn,tmps,params,assign,body,defers:=d}):=by
 obtain ⟨_,ob,ji,iD⟩:=hr.obj l _ hg
 cases iD with
 |round _ _ _ tmps _ _ _ fn d ht=>exact ⟨tmps,fn,d,rfl,ht,ji⟩
omit [aa] in
theorem run_getLoop {w:World} {l:Nat} {r:Loop} (h:w.heap[l]? =some (.loop r)):(Instr.getLoop l).run P w= .ok r w:=by
 simp [Instr.getLoop,getObj,Sem.run,h]
theorem Ab {h:H} {ρ:Ren} {w:World} (hr:HR G h ρ w) {l:Nat} (hG:G≤l) {st st':LoopState} {pend Bp:Option Code} {tm:TV} {tmps:Array Value} {params:Array Tmp} {assign body:Code} {fn:FuncId} {d:Nat}
 (hg:h.hp.get l=some (.round st pend tm tmps.size params assign body)) (ht:TR h.nx ρ tm tmps)
 (ji:w.heap[(ρ l).1]? =some (.loop {state:=st,pending:=pend,fn,tmps,params,assign,body,defers:=d})):
 ∃ w',(setObj (ρ l).1 (.loop {state:=st',pending:=Bp,fn,tmps,params,assign,body,defers:=d})).run P w= .ok () w'∧
   HR G (h.put l (some (.round st' Bp tm tmps.size params assign body))) ρ w'∧Tr G h (h.put l (some (.round st' Bp tm tmps.size params assign body))) ρ ρ w w':=by
 obtain ⟨s1,s2,s3⟩:=lZ (o':= .loop {state:=st',pending:=Bp,fn,tmps,params,assign,body,defers:=d}) (hr.lt hg)
 exact ⟨_,og ji (fun _ _ _=>by simp),hr.put hg hG _ s1 s3 s2 rfl rfl rfl (.round st' Bp tm tmps params assign body fn d ht)⟩
theorem WU {ih:Task→Option (List Out)} (hI:IH P G ih) {h:H} {df:List Deferred} {l:Nat} {args:List Value} {res:List V3} (hv:OE G ih h df l args=some res)
 {b:Frame} {a:Act} {k:List Item} {cs:List Frame} {w:World} {ρ:Ren} {ops:Array Oper} {i:Nat} {rest:List Nat} {o:Oper} (ho:ops[i]? =some o) (hw:Region.wanted o (yielded ops a.tmps)=true)
 (hr:HR G h ρ w) (hd:L2 (ru h.nx ρ) df a.defers) (hl:In h.nx ρ l) {args':Array Value} (hs:(o.semAt b.roundOf a.eval).run P w=(Instr.yield (ρ l).1 args').run P w) (ha:V2 h.nx ρ args args'.toList):
 ∃ r∈res,∃ v' d' ρ' w',VR r.h.nx ρ' r.v v'∧L2 (ru r.h.nx ρ') r.df d'∧HR G r.h ρ' w'∧Tr G h r.h ρ ρ' w w'∧
   Steps P (lone (b.atR a (.inRegion ops (i::rest)::k)) cs w) (lone (b.atR ({a with defers:=d'}.put o.dst v') (.inRegion ops rest::k)) cs w'):=by
 unfold OE at hv
 split at hv
 ·rename_i st0 aem tm sz params assign body hg
  obtain ⟨tmps,fn,d0,rfl,htm,ji⟩:=uq hr hg
  cases hb:(Nat.beq params.size args.length&&Nat.ble G l) with
  |false=>rw [hb] at hv;cases hv
  |true=>
   rw [hb,cond_true] at hv
   simp only [Bool.and_eq_true] at hb
   have hG:G≤l:=Nat.le_of_ble_eq_true hb.2
   obtain ⟨outs,ho1,hm⟩:=iI hv
   have hsz:args'.size=params.size:=by rw [beq_true hb.1,ha.1];simp
   have hbind:=IU _ _ tm tmps (aah params.toList args args'.toList ha) htm rfl
   have aen:(params.zip args').foldl (fun tmps (x:Tmp×Value)=>tmps.setIfInBounds x.1 x.2) tmps=(params.toList.zip args'.toList).foldl (fun tmps (x:Tmp×Value)=>tmps.setIfInBounds x.1 x.2) tmps:=by
    rw [←Array.foldl_toList,Array.toList_zip]
   rw [←aen] at hbind
   have hy:(Instr.yield (ρ l).1 args').run P w= .ok (.round (ρ l).1 fn ((params.zip args').foldl (fun tmps (x:Tmp×Value)=>tmps.setIfInBounds x.1 x.2) tmps) assign body) w:=by
    simp only [Instr.yield,Sem.run_bind,run_getLoop ji,Result.andThen,hsz,ne_eq,not_true_eq_false,if_false,Sem.run_pure]
   rw [hy] at hs
   generalize hT:(params.zip args').foldl (fun tmps (x:Tmp×Value)=>tmps.setIfInBounds x.1 x.2) tmps=Rn at hs hbind
   have hstep:=Lu (P:=P) (b:=b) (a:=a) (k:=k) (cs:=cs) (rest:=rest) ho hw hs
   have ahi:=hI _ _ ho1
   let b2:Frame:=Frame.round (ρ l).1 fn Rn assign body .normal
   have hframe:Frame.round (ρ l).1 fn Rn assign body .normal=b2.atR {tmps:=Rn,defers:=[]} [.code assign,.beginRound,.code body]:=rfl
   obtain ⟨e1,s1,hm1,a1,ρ1,w1,WV,Ac,aeo⟩:=ahi b2 {tmps:=Rn,defers:=[]} [.beginRound,.code body] (b.atR a (.inRegion ops (i::rest)::k)::cs) w ρ
    ⟨hr,hbind.1,hbind.2,L2.nil⟩ ⟨hl,rfl,rfl⟩ (.inl rfl)
   obtain ⟨x,hx,hmx⟩:=hm _ hm1
   unfold Gx at hx
   split at hx
   ·rename_i s1' heq
    cases heq
    split at hx
    ·rename_i aep tm1 sz1 ps1 as1 bd1 hg1
     obtain ⟨tmpsB,fnB,dB,rfl,ahj,aeq⟩:=uq WV.hr hg1
     obtain ⟨wB,hset,hrB,ahk⟩:=Ab (P:=P) (st':= .busy) (Bp:=aep) WV.hr hG hg1 ahj aeq
     have acz:(Instr.beginRound (ρ1 l).1).run P w1= .ok () wB:=by
      simp only [Instr.beginRound,Sem.run_bind,run_getLoop aeq,Result.andThen,hset,Sem.run_pure]
     have hl1:ρ1 l=ρ l:=Ac.agree l hl
     obtain ⟨outs2,ho2,hm2⟩:=iI hx
     have hin1:In s1.h.nx ρ1 l:=hl.mono Ac.nx Ac.agree
     obtain ⟨e2,s2,ahl,a2,ρ2,w2,aer,aai,WW⟩:=(hI _ _ ho2) b2 a1 [] (b.atR a (.inRegion ops (i::rest)::k)::cs) wB ρ1
      ⟨hrB,WV.t,WV.sz,WV.d⟩ ⟨hin1,by rw [hl1];rfl,rfl⟩ (.inl rfl)
     obtain ⟨y,hy2,VI⟩:=hm2 _ ahl
     simp only [Ri] at hy2
     unfold Gw at hy2
     split at hy2
     ·rename_i st2 pend2 Z0 sz2 ps2 as2 bd2 hg2
      obtain ⟨Ro,fnC,dC,rfl,acA,Lv⟩:=uq aer.hr hg2
      have hl2:ρ2 l=ρ l:=(aai.agree l hin1).trans hl1
      have hb2:b2.roundOf=some (ρ2 l).1:=by rw [hl2];rfl
      have hs1:Steps P (lone (b.atR a (.inRegion ops (i::rest)::k)) cs w) (lone (b2.atR a1 [.code body]) (b.atR a (.inRegion ops (i::rest)::k)::cs) wB):=by
       refine Steps.head hstep ?_
       rw [hframe]
       refine Steps.trans aeo (Steps.one (stepR_beginRound (l:=(ρ1 l).1) (by rw [hl1];rfl) acz))
      have finish:∀ (stn:LoopState) (pn:Option Code) (jump:Option Code) (v:Value) (r:V3),r∈y→r.v=v→r.df=df→r.h=s2.h.put l (some (.round stn pn Z0 Ro.size ps2 as2 bd2))→
       (∀ w',(setObj (ρ2 l).1 (.loop {state:=stn,pending:=pn,fn:=fnC,tmps:=Ro,params:=ps2,assign:=as2,body:=bd2,defers:=dC})).run P w2= .ok () w'→(Instr.endRound (ρ2 l).1 jump).run P w2= .ok v w')→
       (∀ w',(Instr.endRound (ρ2 l).1 jump).run P w2= .ok v w'→Steps P (lone (b2.atR a1 [.code body]) (b.atR a (.inRegion ops (i::rest)::k)::cs) wB) (lone ((b.atR a (.inRegion ops (i::rest)::k)).finish v) cs w'))→
       (∀ n ρ,VR n ρ v v)→
       ∃ r∈res,∃ v' d' ρ' w',VR r.h.nx ρ' r.v v'∧L2 (ru r.h.nx ρ') r.df d'∧HR G r.h ρ' w'∧Tr G h r.h ρ ρ' w w'∧
         Steps P (lone (b.atR a (.inRegion ops (i::rest)::k)) cs w) (lone (b.atR ({a with defers:=d'}.put o.dst v') (.inRegion ops rest::k)) cs w'):=by
       intro stn pn jump v r hry e1 e2 e3 hend hst Z5
       obtain ⟨w3,aes,hr3,acB⟩:=Ab (P:=P) (st':=stn) (Bp:=pn) aer.hr hG hg2 acA Lv
       have hT3:=((Ac.trans ahk).trans aai).trans acB
       refine ⟨r,hmx _ (VI _ hry),v,a.defers,ρ2,w3,by rw [e1];exact Z5 _ _,by rw [e2,e3];exact hT3.df hd,by rw [e3];exact hr3,by rw [e3];exact hT3,?_⟩
       refine hs1.trans ?_
       have:=hst w3 (hend w3 aes)
       rw [fin_at ho] at this
       exact this
      cases e2 with
      |normal=>
       cases hy2
       refine finish .ready none none (.bool true) _ List.mem_cons_self rfl rfl rfl ?_ ?_ (fun _ _=> .bool _)
       ·intro w' hw'
        simp only [Instr.endRound,Sem.run_bind,run_getLoop Lv,Result.andThen,Option.isNone_none,if_true,hw',Sem.run_pure]
       ·intro w' hw'
        exact Steps.trans WW (Steps.one (stepR_round_end hb2 rfl hw'))
      |exit id=>
       cases hy2
       obtain ⟨todo,hex,DL⟩:=WW
       refine finish .done (some (.exit id)) (some (.exit id)) (.bool false) _ List.mem_cons_self rfl rfl rfl ?_ ?_ (fun _ _=> .bool _)
       ·intro w' hw'
        simp only [Instr.endRound,Sem.run_bind,run_getLoop Lv,Result.andThen,Option.isNone_some,Bool.false_eq_true,if_false,hw',Sem.run_pure]
       ·intro w' hw'
        exact Steps.trans DL (Steps.one (stepR_round_exit hb2 rfl hex hw'))
      |ret=>
       cases hy2
       obtain ⟨todo,DL⟩:=WW
       refine finish .done (some .ret) (some .ret) (.bool false) _ List.mem_cons_self rfl rfl rfl ?_ ?_ (fun _ _=> .bool _)
       ·intro w' hw'
        simp only [Instr.endRound,Sem.run_bind,run_getLoop Lv,Result.andThen,Option.isNone_some,Bool.false_eq_true,if_false,hw',Sem.run_pure]
       ·intro w' hw'
        exact Steps.trans DL (Steps.one (stepR_round_ret hb2 rfl hw'))
     ·cases hy2
    ·cases hx
   ·cases hx
 ·cases hv
theorem GI (hN:dV P) {ih:Task→Option (List Out)} (hI:IH P G ih) {rd:Option Nat} {o:Oper} {tm:TV} {df:List Deferred} {h:H} {res:List V3}
 (hv:dZ P G ih rd o.op tm df h=some res)
 {b:Frame} {a:Act} {k:List Item} {cs:List Frame} {w:World} {ρ:Ren} {ops:Array Oper} {i:Nat} {rest:List Nat} (ho:ops[i]? =some o) (hw:Region.wanted o (yielded ops a.tmps)=true)
 (hr:HR G h ρ w) (ht:TR h.nx ρ tm a.tmps) (hd:L2 (ru h.nx ρ) df a.defers) (hrd:um h.nx ρ rd b) (hk:jW b.kind cs):
 ∃ r∈res,∃ v' d' ρ' w',VR r.h.nx ρ' r.v v'∧L2 (ru r.h.nx ρ') r.df d'∧HR G r.h ρ' w'∧Tr G h r.h ρ ρ' w w'∧
   Steps P (lone (b.atR a (.inRegion ops (i::rest)::k)) cs w) (lone (b.atR ({a with defers:=d'}.put o.dst v') (.inRegion ops rest::k)) cs w'):=by
 have aaj:(∀ c,o.op= .defer c→rd=none)→o.semAt b.roundOf a.eval=execOp (ak a.tmps) o:=by
  intro h1
  rw [←oh]
  cases rd with
  |none=>have:b.roundOf=none:=hrd;rw [this];rfl
  |some l=>exact Oper.semAt_eq _ _ _ (fun c hc=>by have:=h1 c hc;cases this)
 unfold dZ at hv
 split at hv
 ·rename_i hc
  split at hv
  ·rename_i v hn
   cases hv
   obtain ⟨v',h1,h2⟩:=aab (P:=P) hr ht o hn
   refine ⟨_,List.mem_cons_self,v',a.defers,ρ,w,h1,hd,hr,Tr.refl _ _ _ _,Steps.one (qp ho hw ?_ (.inl rfl))⟩
   rw [aaj (fun c hc'=>by rw [hc'] at hc;cases hc)];exact h2
  ·cases hv
 ·rename_i hc
  split at hv
  ·rename_i v ob hn
   cases hv
   obtain ⟨v',Rk,z,h1,h2⟩:=Rl (P:=P) (w:=w) hr ht o hn
   obtain ⟨h3,h4⟩:=h2 (h.nx+1) (upd ρ h.nx (w.heap.size,0,z)) (Nat.lt_succ_self _) (Nat.le_succ _) (lu _ _ _) (upd_same _ _ _)
   obtain ⟨h5,h6⟩:=hr.new ob Rk z h4
   refine ⟨_,List.mem_cons_self,v',a.defers,_,_,h3,h6.df hd,h5,h6,Steps.one (qp ho hw ?_ (.inl rfl))⟩
   rw [aaj (fun c hc'=>by rw [hc'] at hc;cases hc)];exact h1
  ·cases hv
 ·rename_i hc
  split at hv
  ·rename_i r hn
   obtain ⟨h1,h2,h3⟩:=aaf (P:=P) (w:=w) hr ht hN (rd:=rd) o hn
   have hse:=aaj h3
   unfold Gy at hv
   split at hv
   ·rename_i v h'
    cases hv
    obtain ⟨next,v',ρ',w',e1,e2,e3,e4,e5⟩:=h1
    exact ⟨_,List.mem_cons_self,v',a.defers,ρ',w',e3,e5.df hd,e4,e5,Steps.one (qp ho hw (by rw [hse];exact e1) e2)⟩
   ·rename_i f args
    obtain ⟨args',e1,e2⟩:=h1
    obtain ⟨outs,ho1,hm⟩:=iI hv
    have hent:=Lt (P:=P) (b:=b) (a:=a) (k:=k) (cs:=cs) (rest:=rest) ho hw (by rw [hse];exact e1)
    obtain ⟨v,h',hmem,v',ρ',w',fr,g1,g2,g3,g4,g5⟩:=(hI _ _ ho1) .normal args' (b.atR a (.inRegion ops (i::rest)::k)::cs) w ρ hr e2 (.inl rfl)
    obtain ⟨x,hx,hmx⟩:=hm _ hmem
    cases hx
    refine ⟨_,hmx _ List.mem_cons_self,v',a.defers,ρ',w',g1,g3.df hd,g2,g3,?_⟩
    refine Steps.head hent (Steps.trans g4 (Steps.one ?_))
    have:=GH (c:=b.atR a (.inRegion ops (i::rest)::k)) (cs:=cs) g5
    rw [fin_at ho] at this
    exact this
   ·rename_i d
    cases hv
    obtain ⟨d',e1,e2⟩:=h1
    exact ⟨_,List.mem_cons_self,undef,d'::a.defers,ρ,w,VR.undef,L2.cons e2 hd,hr,Tr.refl _ _ _ _,Steps.one (Ls ho hw (by rw [hse];exact e1))⟩
   ·cases hv
    have hro:b.roundOf=none:=by have:=h2 rfl;subst this;exact hrd
    exact ⟨_,List.mem_cons_self,.nilIface,a.defers,ρ,w,.nilIface,hd,hr,Tr.refl _ _ _ _,Steps.one (FN ho hw hro hk (by rw [hse];exact h1))⟩
   ·rename_i l args
    obtain ⟨hl,args',e1,e2⟩:=h1
    exact WU hI hv ho hw hr hd hl (by rw [hse];exact e1) e2
  ·cases hv
 ·rename_i hc
  split at hv
  ·rename_i x str hx
   split at hv
   ·rename_i l hn
    cases hv
    obtain ⟨p,hp,next,v',ρ',w',e1,e2,e3,e4,e5⟩:=WT (P:=P) (w:=w) hr ht hn o.type
    have hse:=aaj (fun c hc'=>by rw [hc'] at hx;cases hx)
    refine ⟨_,List.mem_map.2 ⟨p,hp,rfl⟩,v',a.defers,ρ',w',e3,e5.df hd,e4,e5,Steps.one (qp ho hw ?_ e2)⟩
    rw [hse]
    simp only [execOp,hx]
    exact e1
   ·cases hv
  ·cases hv
end Go.CE
namespace Go.CE
open Go Go.RowKit
variable [aa]
variable {P:Program} {G:Nat}
theorem qw {n:Nat} {ρ:Ren} {ops:Array Oper} {tm:TV} {tmps:Array Value} (ht:TR n ρ tm tmps) {o:Oper} {x:Bool} (h:dw ops tm o=some x):Region.wanted o (yielded ops tmps)=x:=by
 unfold dw at h
 unfold Region.wanted
 split at h
 ·rename_i e;rw [e];cases h;rfl
 ·rename_i j want e
  rw [e]
  simp only
  unfold yielded
  cases hd:(ops[j]?).bind (·.dst) with
  |none=>rw [hd] at h;cases h
  |some t=>
   rw [hd] at h
   simp only [Option.bind_some] at h ⊢
   cases hg:tm.get t with
   |none=>rw [hg] at h;cases h
   |some v=>
    obtain ⟨v',h1,h2⟩:=ht t v hg
    rw [hg] at h
    rw [h1]
    cases h2<;>simp_all<;>exact h
theorem TQ (hN:dV P) {ih:Task→Option (List Out)} (hI:IH P G ih) {rd:Option Nat} {ops:Array Oper}:∀ (l:List Oper) (is:List Nat) (st:St) (res:List St),
 L2 (fun (i:Nat) o=>ops[i]? =some o) is l→jG P G ih rd ops l st=some res→
 ∀ b a k cs w ρ,SR G st ρ a w→um st.h.nx ρ rd b→jW b.kind cs→
   ∃ st'∈res,∃ a' ρ' w',SR G st' ρ' a' w'∧Tr G st.h st'.h ρ ρ' w w'∧Steps P (lone (b.atR a (.inRegion ops is::k)) cs w) (lone (b.atR a' k) cs w'):=by
 intro l
 induction l with
 |nil=>
  intro is st res hl hv b a k cs w ρ hs hrd hk
  cases hv
  rw [hl.Gz]
  exact ⟨st,List.mem_cons_self,a,ρ,w,hs,Tr.refl _ _ _ _,Steps.one stepR_region_end⟩
 |cons o l ih2=>
  intro is st res hl hv b a k cs w ρ hs hrd hk
  cases is with
  |nil=>have:=hl.1;simp at this
  |cons i is=>
   have ho:=hl.head
   have hl2:=hl.tail
   unfold jG at hv
   split at hv
   ·cases hv
   ·rename_i hwa
    have hw:=qw hs.t hwa
    have hst:=stepR_op_skip (P:=P) (b:=b) (a:=a) (k:=k) (cs:=cs) (w:=w) (ops:=ops) (i:=i) (rest:=is) (by rw [ho];simpa using hw)
    simp only [ho,Option.bind_some] at hst
    obtain ⟨st',hm,a',ρ',w',h1,h2,h3⟩:=ih2 is _ _ hl2 hv b (a.put o.dst undef) k cs w ρ
     ⟨hs.hr,vF hs.t hs.sz VR.undef o.dst,by rw [uo];exact hs.sz,by rw [put_defers];exact hs.d⟩ hrd hk
    exact ⟨st',hm,a',ρ',w',h1,h2,Steps.head hst h3⟩
   ·rename_i hwa
    have hw:=qw hs.t hwa
    obtain ⟨sts,TS,hm⟩:=iI hv
    unfold Bn at TS
    split at TS
    ·rename_i rs hrs
     cases TS
     obtain ⟨r,hr,v',d',ρ1,w1,g1,g2,g3,g4,g5⟩:=GI (P:=P) (b:=b) (a:=a) (k:=k) (cs:=cs) (rest:=is) hN hI hrs ho hw hs.hr hs.t hs.d hrd hk
     obtain ⟨x,hx,hmx⟩:=hm (Dn st o.dst r) (List.mem_map.2 ⟨r,hr,rfl⟩)
     have hs1:SR G (Dn st o.dst r) ρ1 ({a with defers:=d'}.put o.dst v') w1:=
      ⟨g3,vF (a:={a with defers:=d'}) (hs.t.mono g4.nx g4.agree) hs.sz g1 o.dst,by rw [uo];exact hs.sz,by rw [put_defers];exact g2⟩
     obtain ⟨st',hm',a',ρ',w',h1,h2,h3⟩:=ih2 is _ _ hl2 hx b _ k cs w1 ρ1 hs1 (hrd.mono g4.nx g4.agree) hk
     exact ⟨st',hmx _ hm',a',ρ',w',h1,g4.trans h2,Steps.trans g5 h3⟩
    ·cases TS
omit [aa] in
theorem TT (ops:Array Oper):L2 (fun (i:Nat) o=>ops[i]? =some o) (List.range ops.size) ops.toList:=by
 refine ⟨by simp,fun j x y hx hy=>?_⟩
 have hj:j<ops.size:=by have:=(List.getElem?_eq_some_iff.1 hy).1;simpa using this
 rw [List.getElem?_range hj] at hx
 cases hx
 show ops[j]? =some y
 rw [←Array.getElem?_toList];exact hy
def OY (P:Program) (G:Nat) (ih:Task→Option (List Out)):Prop:=∀ rd ops st st',jM P G ih rd ops st=some st'→
 ∀ b a k cs w ρ id,SR G st ρ a w→um st.h.nx ρ rd b→jW b.kind cs→
   ∃ a' ρ' w',SR G st' ρ' a' w'∧Tr G st.h st'.h ρ ρ' w w'∧Steps P (lone (b.atR a (.code (.region id ops true)::k)) cs w) (lone (b.atR a' k) cs w')
section
variable {b:Frame} {cs:List Frame} {m m':Machine} {k:List Item} {a:Act} {w:World} {e:Ex}
omit [aa] in
theorem Ends.of_steps (h:Steps P m m') (h':Ends P b cs m' k a w e):Ends P b cs m k a w e:=by
 cases e with
 |normal=>exact h.trans h'
 |exit id=>obtain ⟨t,h1,h2⟩:=h';exact ⟨t,h1,h.trans h2⟩
 |ret=>obtain ⟨t,h2⟩:=h';exact ⟨t,h.trans h2⟩
omit [aa] in
theorem Ends.pass {x:Item} (hx:∀ id,x≠ .inBlock id) (he:e≠ .normal) (h:Ends P b cs m (x::k) a w e):Ends P b cs m k a w e:=by
 cases e with
 |normal=>exact absurd rfl he
 |exit id=>
  obtain ⟨t,h1,h2⟩:=h
  refine ⟨t,h1.trans ?_,h2⟩
  cases x<;>first|rfl|exact absurd rfl (hx _)
 |ret=>exact h
omit [aa] in
theorem Lx {c:Code}:step P (lone (b.atR a (.code (.scope c)::k)) cs w)= .next (lone (b.atR a (.code c:: .inScope c::k)) cs w):=
 step_lone_go (by simp [stepG,stepG.exec,Frame.atR])
omit [aa] in
theorem FO {c:Code}:step P (lone (b.atR a (.inScope c::k)) cs w)= .next (lone (b.atR a k) cs w):=
 step_lone_go (by simp [stepG,stepG.exec,Frame.atR])
omit [aa] in
theorem Steps.tail {m2:Machine} (hs:step P m= .next m') (h:Steps P m m2) (hne:m2≠m):Steps P m' m2:=by
 obtain ⟨n,hn⟩:=h
 cases n with
 |zero=>simp only [runN,Stepped.next.injEq] at hn;exact absurd hn.symm hne
 |succ n=>simp only [runN,hs] at hn;exact ⟨n,hn⟩
omit [aa] in
theorem TU {fr fr':Frame} {cs':List Frame} {w':World} (h:lone fr cs w=lone fr' cs' w'):fr.todo=fr'.todo:=by
 have h1:=congrArg Machine.gs h
 simp only [lone,Array.mk.injEq,List.cons.injEq,and_true] at h1
 exact congrArg (fun g:Goroutine=>g.frame.todo) h1
omit [aa] in
theorem Ends.loop {c:Code} {a':Act} {w':World} (h:Ends P b cs (lone (b.atR a' (.code (.loop c)::k)) cs w') k a w e):Ends P b cs (lone (b.atR a' (.inLoop c::k)) cs w') k a w e:=by
 have hne:∀ todo:List Item,todo≠ .code (.loop c)::k→lone (b.atR a todo) cs w≠lone (b.atR a' (.code (.loop c)::k)) cs w':=fun todo h0 e0=>h0 (TU e0)
 cases e with
 |normal=>exact Steps.head stepR_inLoop (Steps.tail stepR_loop h (hne _ fun e0=>by have:=congrArg List.length e0;simp at this))
 |exit id=>obtain ⟨t,h1,h2⟩:=h;exact ⟨t,h1,Steps.head stepR_inLoop (Steps.tail stepR_loop h2 (hne _ fun e0=>by simp at e0))⟩
 |ret=>obtain ⟨t,h2⟩:=h;exact ⟨t,Steps.head stepR_inLoop (Steps.tail stepR_loop h2 (hne _ fun e0=>by simp at e0))⟩
end
section
variable {ih:Task→Option (List Out)} {rd:Option Nat} {st:St} {outs:List Out}
theorem LA (hN:dV P) (hI:IH P G ih) (hD:OY P G ih) {id:Nat} {ops:Array Oper} {draw:Bool} (hv:kZ P G ih rd st ops draw=some outs):FM P G (.region id ops draw) rd st outs:=by
 intro b a k cs w ρ hs hrd hk
 unfold kZ at hv
 cases draw with
 |true=>
  rw [cond_true] at hv
  split at hv
  ·rename_i s hrun
   cases hv
   obtain ⟨a',ρ',w',h1,h2,h3⟩:=hD _ _ _ _ hrun b a k cs w ρ id hs hrd hk
   exact ⟨.normal,s,List.mem_cons_self,a',ρ',w',h1,h2,h3⟩
  ·cases hv
 |false=>
  rw [cond_false] at hv
  obtain ⟨sts,TS,hm⟩:=iI hv
  obtain ⟨st',hst',a',ρ',w',h1,h2,h3⟩:=TQ hN hI _ _ _ _ (TT ops) TS b a k cs w ρ hs hrd hk
  obtain ⟨x,hx,hmx⟩:=hm _ hst'
  cases hx
  exact ⟨.normal,st',hmx _ List.mem_cons_self,a',ρ',w',h1,h2,Steps.head stepR_region h3⟩
theorem GJ (hI:IH P G ih) {c d:Code} {x:Item} (hx:∀ id,x≠ .inBlock id) (hv:iC (ih (.code c rd st)) (oV ih d rd)=some outs)
 {full:Code} (hst:∀ (b:Frame) (a:Act) (k:List Item) (cs:List Frame) (w:World),step P (lone (b.atR a (.code full::k)) cs w)= .next (lone (b.atR a (.code c::x::k)) cs w))
 (aet:∀ (b:Frame) (a a':Act) (k:List Item) (cs:List Frame) (w w':World) (e:Ex),Ends P b cs (lone (b.atR a' (.code d::k)) cs w') k a w e→Ends P b cs (lone (b.atR a' (x::k)) cs w') k a w e):
 FM P G full rd st outs:=by
 intro b a k cs w ρ hs hrd hk
 obtain ⟨l,hl,hm⟩:=iI hv
 obtain ⟨e1,s1,hm1,a1,ρ1,w1,h1,h2,h3⟩:=(hI _ _ hl) b a (x::k) cs w ρ hs hrd hk
 obtain ⟨y,hy,VI⟩:=hm _ hm1
 have hstart:=Steps.one (hst b a k cs w)
 cases e1 with
 |normal=>
  simp only [oV] at hy
  obtain ⟨e2,s2,hm2,a2,ρ2,w2,g1,g2,g3⟩:=(hI _ _ hy) b a1 k cs w1 ρ1 h1 (hrd.mono h2.nx h2.agree) hk
  exact ⟨e2,s2,VI _ hm2,a2,ρ2,w2,g1,h2.trans g2,Ends.of_steps (hstart.trans h3) (aet _ _ _ _ _ _ _ _ g3)⟩
 |exit id=>cases hy;exact ⟨.exit id,s1,VI _ List.mem_cons_self,a1,ρ1,w1,h1,h2,Ends.of_steps hstart (Ends.pass hx (by simp) h3)⟩
 |ret=>cases hy;exact ⟨.ret,s1,VI _ List.mem_cons_self,a1,ρ1,w1,h1,h2,Ends.of_steps hstart (Ends.pass hx (by simp) h3)⟩
theorem WX (hI:IH P G ih) {c d:Code} (hv:iC (ih (.code c rd st)) (oV ih d rd)=some outs):FM P G (.seq c d) rd st outs:=
 GJ hI (x:= .code d) (fun _=>by simp) hv (fun _ _ _ _ _=>stepR_seq) (fun _ _ _ _ _ _ _ _ h=>h)
theorem TW (hI:IH P G ih) {c:Code} (hv:iC (ih (.code c rd st)) (oV ih (.loop c) rd)=some outs):FM P G (.loop c) rd st outs:=
 GJ hI (x:= .inLoop c) (fun _=>by simp) hv (fun _ _ _ _ _=>stepR_loop) (fun _ _ _ _ _ _ _ _ h=>Ends.loop h)
theorem OZ (hI:IH P G ih) {id:Nat} {c:Code} (hv:iC (ih (.code c rd st)) (vB id)=some outs):FM P G (.block id c) rd st outs:=by
 intro b a k cs w ρ hs hrd hk
 obtain ⟨l,hl,hm⟩:=iI hv
 obtain ⟨e1,s1,hm1,a1,ρ1,w1,h1,h2,h3⟩:=(hI _ _ hl) b a (.inBlock id::k) cs w ρ hs hrd hk
 obtain ⟨y,hy,VI⟩:=hm _ hm1
 have hstart:=Steps.one (stepR_block (P:=P) (b:=b) (a:=a) (k:=k) (cs:=cs) (w:=w) (id:=id) (c:=c))
 cases e1 with
 |normal=>cases hy;exact ⟨.normal,s1,VI _ List.mem_cons_self,a1,ρ1,w1,h1,h2,hstart.trans (Steps.trans h3 (Steps.one stepR_inBlock))⟩
 |exit j=>
  obtain ⟨t,g1,g2⟩:=h3
  simp only [vB] at hy
  cases hb:Nat.beq j id with
  |true=>
   rw [hb,cond_true] at hy;cases hy
   obtain rfl:=beq_true hb
   refine ⟨.normal,s1,VI _ List.mem_cons_self,a1,ρ1,w1,h1,h2,hstart.trans (Steps.trans g2 (Steps.one (stepR_exit ?_)))⟩
   rw [g1];simp [exitTo]
  |false=>
   rw [hb,cond_false] at hy;cases hy
   refine ⟨.exit j,s1,VI _ List.mem_cons_self,a1,ρ1,w1,h1,h2,t,?_,hstart.trans g2⟩
   rw [g1]
   have:¬(id=j):=fun e=>by subst e;rw [Nat.beq_refl] at hb;cases hb
   simp [exitTo,this]
 |ret=>cases hy;exact ⟨.ret,s1,VI _ List.mem_cons_self,a1,ρ1,w1,h1,h2,Ends.of_steps (e:= .ret) hstart h3⟩
theorem O0 (hI:IH P G ih) {c:Code} (hv:ih (.code c rd st)=some outs):FM P G (.scope c) rd st outs:=by
 intro b a k cs w ρ hs hrd hk
 obtain ⟨e1,s1,hm1,a1,ρ1,w1,h1,h2,h3⟩:=(hI _ _ hv) b a (.inScope c::k) cs w ρ hs hrd hk
 have hstart:=Steps.one (Lx (P:=P) (b:=b) (a:=a) (k:=k) (cs:=cs) (w:=w) (c:=c))
 refine ⟨e1,s1,hm1,a1,ρ1,w1,h1,h2,?_⟩
 cases e1 with
 |normal=>exact hstart.trans (Steps.trans h3 (Steps.one FO))
 |exit id=>exact Ends.of_steps hstart (Ends.pass (fun _=>by simp) (by simp) h3)
 |ret=>exact Ends.of_steps hstart (Ends.pass (fun _=>by simp) (by simp) h3)
theorem TY (hI:IH P G ih) {c:Operand} {x y:Code} (hv:yA G ih rd st c x y=some outs):FM P G (.cond c x y) rd st outs:=by
 intro b a k cs w ρ hs hrd hk
 unfold yA at hv
 split at hv
 ·rename_i hc
  have hc':a.eval c= .bool true:=by
   have:=av hs.hr hs.t hc
   rw [oh];generalize ak a.tmps c=z at this;cases this;rfl
  obtain ⟨e1,s1,hm1,a1,ρ1,w1,h1,h2,h3⟩:=(hI _ _ hv) b a k cs w ρ hs hrd hk
  exact ⟨e1,s1,hm1,a1,ρ1,w1,h1,h2,Ends.of_steps (Steps.one (stepR_cond hc')) h3⟩
 ·rename_i hc
  have hc':a.eval c= .bool false:=by
   have:=av hs.hr hs.t hc
   rw [oh];generalize ak a.tmps c=z at this;cases this;rfl
  obtain ⟨e1,s1,hm1,a1,ρ1,w1,h1,h2,h3⟩:=(hI _ _ hv) b a k cs w ρ hs hrd hk
  exact ⟨e1,s1,hm1,a1,ρ1,w1,h1,h2,Ends.of_steps (Steps.one (stepR_cond hc')) h3⟩
 ·cases hv
omit [aa] in
theorem wG (hN:dV P) {g:Nat} {fn:Func} {c:Code} (hg:P.funcs[g]? =some fn) (hb:fn.body=some c) (first captured:Array Value) (f:Operand) (a:Act) (l:Nat) (w:World)
 (hf:a.eval f= .func (.func g) first captured):∃ d,(resolve a.eval (rangeCall f l) 0).run P w= .ok d w∧(invoke d.target d.args).run P w= .ok (.enter g (first++#[.func (.yield l) #[] #[]]++captured)) w:=by
 refine ⟨{target:= .fn (.func g) captured,args:=first++#[.func (.yield l) #[] #[]]},?_,?_⟩
 ·have:Array.map a.eval #[Operand.const (Value.func (.yield l) #[] #[])]= #[Value.func (.yield l) #[] #[]]:=by simp [Act.eval]
  simp only [resolve,hf,Deferred.ofValue,Sem.run_pure,this]
 ·simp only [invoke]
  exact ry hN hg hb _ w
theorem LB (hI:IH P G ih) {g:FuncId} {first captured:Array Value} {params:Array Tmp} {assign body:Code} {h1:H} {df:List Deferred}
 (hv:BX ih st g first captured params assign body h1 df=some outs) {b:Frame} {a a2:Act} {k:List Item} {cs:List Frame} {w w1:World} {ρ1:Ren} {f:Operand} {fn:FuncId} {d:Nat}
 (hr1:HR G h1 ρ1 w1) (htm:TR h1.nx ρ1 st.tm a.tmps) (hsz:a.tmps.size=st.sz) (hdf:L2 (ru h1.nx ρ1) df a2.defers) (ha2:a2.tmps=a.tmps)
 {first' captured':Array Value} (hf1:V2 h1.nx ρ1 first.toList first'.toList) (hc1:V2 h1.nx ρ1 captured.toList captured'.toList)
 (hst:step P (lone (b.atR a (.code (.rangeFunc f params assign body)::k)) cs w)=
   .next (lone (Frame.enter P g (first'++#[.func (.yield w1.heap.size) #[] #[]]++captured') .normal) (b.atR a2 (.inRangeFunc w1.heap.size::k)::cs)
     (w1.alloc (.loop {state:= .ready,pending:=none,fn:=fn,tmps:=a.tmps,params:=params,assign:=assign,body:=body,defers:=d})))):
 ∃ e st',Out.code e st'∈outs∧∃ a' ρ' w',SR G st' ρ' a' w'∧Tr G h1 st'.h ρ1 ρ' w1 w'∧Ends P b cs (lone (b.atR a (.code (.rangeFunc f params assign body)::k)) cs w) k a' w' e:=by
 unfold BX at hv
 have hag:=lu ρ1 h1.nx (w1.heap.size,0,0)
 have iD:jV (h1.nx+1) (upd ρ1 h1.nx (w1.heap.size,0,0)) h1.nx (.round .ready none st.tm st.sz params assign body)
  (.loop {state:= .ready,pending:=none,fn:=fn,tmps:=a.tmps,params:=params,assign:=assign,body:=body,defers:=d}):=by
  rw [←hsz]
  exact .round _ _ _ _ _ _ _ fn d (htm.mono (Nat.le_succ _) hag)
 obtain ⟨hr2,aai⟩:=hr1.new (.round .ready none st.tm st.sz params assign body) _ 0 iD
 obtain ⟨l,hl,hm⟩:=iI hv
 have hin:In (h1.nx+1) (upd ρ1 h1.nx (w1.heap.size,0,0)) h1.nx:=⟨Nat.lt_succ_self _,by rw [upd_same];exact Nat.le_refl _⟩
 have hy:VR (h1.nx+1) (upd ρ1 h1.nx (w1.heap.size,0,0)) (.func (.yield h1.nx) #[] #[]) (.func (.yield w1.heap.size) #[] #[]):=by
  have:=VR.yield (n:=h1.nx+1) (ρ:=upd ρ1 h1.nx (w1.heap.size,0,0)) h1.nx hin
  rw [upd_same] at this;exact this
 have hargs:V2 (h1.nx+1) (upd ρ1 h1.nx (w1.heap.size,0,0)) (first.toList++[Value.func (.yield h1.nx) #[] #[]]++captured.toList) (first'++#[Value.func (.yield w1.heap.size) #[] #[]]++captured').toList:=by
  simp only [Array.toList_append]
  exact ((V2.mono' hf1 (Nat.le_succ _) hag).append (L2.cons hy L2.nil)).append (V2.mono' hc1 (Nat.le_succ _) hag)
 obtain ⟨v,h2,hmem,v',ρ2,w2,fr,g1,g2,g3,g4,g5⟩:=(hI _ _ hl) .normal _ (b.atR a2 (.inRangeFunc w1.heap.size::k)::cs) _ _ hr2 hargs (.inl rfl)
 obtain ⟨x,hx,hmx⟩:=hm _ hmem
 have hback:=GH (c:=b.atR a2 (.inRangeFunc w1.heap.size::k)) (cs:=cs) g5
 rw [finish_atR_inRangeFunc] at hback
 have hto:Steps P (lone (b.atR a (.code (.rangeFunc f params assign body)::k)) cs w) (lone (b.atR a2 (.endRangeFunc w1.heap.size::k)) cs w2):=
  Steps.head hst (Steps.trans g4 (Steps.one hback))
 have hblk:(ρ2 h1.nx).1=w1.heap.size:=by rw [g3.agree h1.nx hin,upd_same]
 have ahn:=aai.trans g3
 unfold K8 at hx
 split at hx
 ·rename_i v0 h20 heq
  cases heq
  split at hx
  ·rename_i s pend tm sz ps as bd hg
   obtain ⟨Ro,fnC,dC,rfl,acA,Lv⟩:=uq g2 hg
   have hG1:G≤h1.nx:=hr1.bound
   have key:∀ (e:Ex) (stf:St),s≠ .busy→stf= {tm:=st.tm,sz:=st.sz,df:=df,h:=h2.put h1.nx (some (.round .exhausted pend tm Ro.size ps as bd))}→Out.code e stf∈x→
    (∀ w3,(Instr.endLoop w1.heap.size).run P w2= .ok pend w3→Ends P b cs (lone (b.atR a2 (.endRangeFunc w1.heap.size::k)) cs w2) k a2 w3 e)→
    ∃ e st',Out.code e st'∈outs∧∃ a' ρ' w',SR G st' ρ' a' w'∧Tr G h1 st'.h ρ1 ρ' w1 w'∧Ends P b cs (lone (b.atR a (.code (.rangeFunc f params assign body)::k)) cs w) k a' w' e:=by
    intro e stf hnb e1 aeu hend
    obtain ⟨w3,hset,hr3,acB⟩:=Ab (P:=P) (st':= .exhausted) (Bp:=pend) g2 hG1 hg acA Lv
    have hT:=ahn.trans acB
    refine ⟨e,stf,hmx _ aeu,a2,ρ2,w3,?_,by rw [e1];exact hT,Ends.of_steps hto (hend w3 ?_)⟩
    ·rw [e1]
     exact ⟨hr3,by rw [ha2];exact htm.mono hT.nx hT.agree,by rw [ha2];exact hsz,hT.df hdf⟩
    ·rw [hblk] at Lv hset
     simp only [Instr.endLoop,Sem.run_bind,Instr.getLoop,getObj,Sem.run,Lv,Result.andThen]
     have:(s==LoopState.busy)=false:=by cases s<;>first|rfl|exact absurd rfl hnb
     simp only [this,Bool.false_eq_true,if_false,Sem.run_pure,Sem.run_bind,hset,Result.andThen]
   split at hx
   ·cases hx
   ·rename_i hnb
    cases hx
    refine key .normal _ (fun e=>by subst e;simp_all) rfl List.mem_cons_self (fun w3 hw3=>?_)
    have:=stepR_endRangeFunc (P:=P) (b:=b) (a:=a2) (k:=k) (cs:=cs) hw3
    exact Steps.one this
   ·rename_i id hnb
    cases hx
    refine key (.exit id) _ (fun e=>by subst e;simp_all) rfl List.mem_cons_self (fun w3 hw3=>?_)
    have:=stepR_endRangeFunc (P:=P) (b:=b) (a:=a2) (k:=k) (cs:=cs) hw3
    exact ⟨k,rfl,Steps.one this⟩
   ·rename_i hnb
    cases hx
    refine key .ret _ (fun e=>by subst e;simp_all) rfl List.mem_cons_self (fun w3 hw3=>?_)
    have:=stepR_endRangeFunc (P:=P) (b:=b) (a:=a2) (k:=k) (cs:=cs) hw3
    exact ⟨k,Steps.one this⟩
   ·cases hx
  ·cases hx
 ·cases hx
theorem O1 (hN:dV P) (hI:IH P G ih) {f:Operand} {params:Array Tmp} {assign body:Code} (hv:vC P G ih rd st f params assign body=some outs):FM P G (.rangeFunc f params assign body) rd st outs:=by
 intro b a k cs w ρ hs hrd hk
 unfold vC at hv
 split at hv
 ·rename_i g first captured hf
  have vf:=av hs.hr hs.t hf
  rw [←oh] at vf
  generalize hfe:a.eval f=f' at vf
  split at hv
  ·rename_i gn hg
   cases vf with
   |func _ _ first' _ captured' l1 r1 l2 r2=>
    split at hv
    ·rename_i l c hbody
     split at hv
     ·rename_i st0 aem O3 sz0 ps0 as0 bd0 hgl
      obtain ⟨aev,fn0,d0,_,_,ahp⟩:=uq hs.hr hgl
      have hro:b.roundOf=some (ρ c).1:=hrd.2.1
      have he:=run_enterLoop_inner (P:=P) ahp b.fn a.tmps params assign body
      rw [←hro] at he
      obtain ⟨d,hd1,hd2⟩:=wG hN hg hbody first' captured' f a w.heap.size (w.alloc (.loop {state:= .ready,pending:=none,fn:=b.fn,tmps:=a.tmps,params:=params,assign:=assign,body:=body,defers:=d0})) hfe
      have hst:=stepR_rangeFunc (P:=P) (b:=b) (a:=a) (k:=k) (cs:=cs) he hd1 hd2
      exact LB hI hv (a2:={a with defers:=[]++a.defers}) hs.hr hs.t hs.sz hs.d rfl ⟨l1,r1⟩ ⟨l2,r2⟩ hst
     ·cases hv
    ·rename_i hbody
     have hro:b.roundOf=none:=hrd
     have he:=run_enterLoop_outer (P:=P) (w:=w) b.fn a.tmps params assign body
     rw [←hro] at he
     have hsz1:(w.alloc (.deferred (some []))).heap.size=w.heap.size+1:=by simp
     obtain ⟨hr1,Ac⟩:=hs.hr.new (.defs true) (.deferred (some [])) 0 (.defs true)
     obtain ⟨d,hd1,hd2⟩:=wG hN hg hbody first' captured' f a (w.heap.size+1) ((w.alloc (.deferred (some []))).alloc (.loop {state:= .ready,pending:=none,fn:=b.fn,tmps:=a.tmps,params:=params,assign:=assign,body:=body,defers:=w.heap.size})) hfe
     have hst:=stepR_rangeFunc (P:=P) (b:=b) (a:=a) (k:=k) (cs:=cs) he hd1 hd2
     rw [←hsz1] at hst
     have hdef:ru (st.h.nx+1) (upd ρ st.h.nx (w.heap.size,0,0)) {target:= .collected st.h.nx,args:=#[]} {target:= .collected w.heap.size,args:=#[]}:=
      ⟨L2.nil,.inl ⟨st.h.nx,rfl,⟨Nat.lt_succ_self _,by rw [upd_same];exact Nat.le_refl _⟩,by rw [upd_same]⟩⟩
     obtain ⟨e,st',h1,a',ρ',w',h2,h3,h4⟩:=LB hI hv (a2:={a with defers:=[{target:= .collected w.heap.size,args:=#[]}]++a.defers}) hr1 (hs.t.mono Ac.nx Ac.agree) hs.sz (L2.cons hdef (Ac.df hs.d)) rfl
      (V2.mono' ⟨l1,r1⟩ Ac.nx Ac.agree) (V2.mono' ⟨l2,r2⟩ Ac.nx Ac.agree) hst
     exact ⟨e,st',h1,a',ρ',w',h2,Ac.trans h3,h4⟩
    ·cases hv
  ·cases hv
 ·cases hv
theorem LC (hN:dV P) (hI:IH P G ih) (hD:OY P G ih) {c:Code} (hv:yB P G ih rd st c=some outs):FM P G c rd st outs:=by
 cases c with
 |skip=>cases hv;exact fun b a k cs w ρ hs hrd hk=>⟨.normal,st,List.mem_cons_self,a,ρ,w,hs,Tr.refl _ _ _ _,Steps.one stepR_skip⟩
 |label l=>cases hv;exact fun b a k cs w ρ hs hrd hk=>⟨.normal,st,List.mem_cons_self,a,ρ,w,hs,Tr.refl _ _ _ _,Steps.one stepR_label⟩
 |region id ops draw=>exact LA hN hI hD hv
 |seq x y=>exact WX hI hv
 |cond x y z=>exact TY hI hv
 |block id x=>exact OZ hI hv
 |loop x=>exact TW hI hv
 |scope x=>exact O0 hI hv
 |exit id=>cases hv;exact fun b a k cs w ρ hs hrd hk=>⟨.exit id,st,List.mem_cons_self,a,ρ,w,hs,Tr.refl _ _ _ _,k,rfl,Steps.refl _ _⟩
 |ret=>cases hv;exact fun b a k cs w ρ hs hrd hk=>⟨.ret,st,List.mem_cons_self,a,ρ,w,hs,Tr.refl _ _ _ _,k,Steps.refl _ _⟩
 |rangeFunc f p x y=>exact O1 hN hI hv
 |_=>cases hv
end
end Go.CE
namespace Go.CE
open Go Go.RowKit
variable [aa]
variable {P:Program} {G:Nat}
theorem VR.narrow {n m:Nat} {ρ ρ':Ren} {x y z:Value} (h:VR m ρ' x y) (k:VR n ρ x z) (hag:Agree n ρ ρ'):VR n ρ' x y:=by
 induction k generalizing y with
 |letter k r j hf=>cases h with|letter _ _ _ h2=>exact .letter k r j h2
 |bool b=>cases h;exact .bool b
 |int k q=>cases h;exact .int k q
 |float k q=>cases h;exact .float k q
 |string s=>cases h;exact .string s
 |wX=>cases h;exact .wX
 |ptr i k hi=>cases h;exact .ptr i k (hi.mono (Nat.le_refl _) hag)
 |kG a b=>cases h;exact .kG a b
 |slice i k l c c' hi hc=>
  cases h with
  |slice _ _ _ _ c2 _ hc2=>exact .slice i k l c c2 (hi.mono (Nat.le_refl _) hag) hc2
 |wY=>cases h;exact .wY
 |map i hi=>cases h;exact .map i (hi.mono (Nat.le_refl _) hag)
 |func f a a' b b' ha hA hb hB ihA ihB=>
  cases h with
  |func _ _ a2 _ b2 ha2 hA2 hb2 hB2=>
   refine .func f a a2 b b2 ha2 (fun i x y hx hy=>?_) hb2 (fun i x y hx hy=>?_)
   ·obtain ⟨z,hz,_⟩:=L2.get (R:=VR n ρ) ⟨ha,hA⟩ hx
    exact ihA i x z hx hz (hA2 i x y hx hy)
   ·obtain ⟨z,hz,_⟩:=L2.get (R:=VR n ρ) ⟨hb,hB⟩ hx
    exact ihB i x z hx hz (hB2 i x y hx hy)
 |yield i hi=>
  cases h with
  |yield _ _=>exact .yield i (hi.mono (Nat.le_refl _) hag)
 |nilFunc=>cases h;exact .nilFunc
 |iface t v v' _ ih=>cases h with|iface _ _ v2 h2=>exact .iface t v v2 (ih h2)
 |nilIface=>cases h;exact .nilIface
 |agg a a' ha hA ihA=>
  cases h with
  |agg _ a2 ha2 hA2=>
   refine .agg a a2 ha2 (fun i x y hx hy=>?_)
   obtain ⟨z,hz,_⟩:=L2.get (R:=VR n ρ) ⟨ha,hA⟩ hx
   exact ihA i x z hx hz (hA2 i x y hx hy)
 |tuple a a' ha hA ihA=>
  cases h with
  |tuple _ a2 ha2 hA2=>
   refine .tuple a a2 ha2 (fun i x y hx hy=>?_)
   obtain ⟨z,hz,_⟩:=L2.get (R:=VR n ρ) ⟨ha,hA⟩ hx
   exact ihA i x z hx hz (hA2 i x y hx hy)
theorem jV.narrow {n m:Nat} {ρ ρ':Ren} {i:Nat} {o:aJ} {ob VH:Obj} (h:jV m ρ' i o VH) (k:jV n ρ i o ob) (hag:Agree n ρ ρ'):jV n ρ' i o VH:=by
 cases h with
 |cells cs c e fz hz hl hv hf=>
  cases k with
  |cells _ c0 e0 fz0 hz0 hl0 hv0 hf0=>
   refine .cells cs c e fz hz hl (fun j x hx=>?_) hf
   obtain ⟨y,h1,h2⟩:=hv j x hx
   obtain ⟨z,_,h3⟩:=hv0 j x hx
   exact ⟨y,h1,h2.narrow h3 hag⟩
 |map es clock es' hm=>
  cases k with
  |map _ _ es0 hm0=>
   refine .map es clock es' ⟨hm.1,fun j x y hx hy=>?_⟩
   obtain ⟨z,_,h3⟩:=hm0.get hx
   have h2:=hm.2 j x y hx hy
   exact ⟨h2.1.narrow h3.1 hag,h2.2.1.narrow h3.2.1 hag,h2.2.2⟩
 |text s p h0=>exact .text s p h0
 |GA a c b h0=>exact .GA a c b h0
 |walk k' since seen stepped hk h0=>
  cases k with
  |walk _ _ _ _ hk0 _=>exact .walk k' since seen stepped (hk0.mono (Nat.le_refl _) hag) h0
 |round st pend tm tmps params assign body fn d ht=>
  generalize hsz:tmps.size=sz at k
  cases k with
  |round _ _ _ aev _ _ _ fn0 d0 ht0=>
   rw [←hsz]
   refine .round st pend tm tmps params assign body fn d (fun t v hv=>?_)
   obtain ⟨y,h1,h2⟩:=ht t v hv
   obtain ⟨z,_,h3⟩:=ht0 t v hv
   exact ⟨y,h1,h2.narrow h3 hag⟩
 |defs b=>exact .defs b
omit [aa] in
theorem yM {f:Value→Value→Bool} (hf:∀ v w,f v w=true→v=w):∀ (l m:List Value),rU f l m=true→l=m
 |[],[],_=>rfl
 |[],_::_,h=>by cases h
 |_::_,[],h=>by cases h
 |a::l,b::m,h=>by
  simp only [rU,Bool.and_eq_true] at h
  rw [hf a b h.1,yM hf l m h.2]
omit [aa] in
theorem LD {a b:ByteArray} (h:Df a b=true):a=b:=by
 unfold Df at h
 have h1:=eq_of_beq h
 cases a;cases b
 congr 1
 exact Array.toList_inj.1 h1
omit [aa] in
theorem Ad:∀ (n:Nat) (v w:Value),Dg n v w=true→v=w:=by
 intro n
 induction n with
 |zero=>intro v w h;simp [Dg] at h
 |succ n ih=>
  intro v w h
  unfold Dg at h
  split at h
  ·rw [eq_of_beq h]
  ·simp only [Bool.and_eq_true,beq_iff_eq] at h;rw [h.1,h.2]
  ·rw [LD h]
  ·rfl
  ·simp only [Bool.and_eq_true,beq_iff_eq] at h;rw [h.1,h.2]
  ·rfl
  ·rfl
  ·rfl
  ·simp only [Bool.and_eq_true,beq_iff_eq] at h;rw [h.1,ih _ _ h.2]
  ·rw [Array.toList_inj.1 (yM ih _ _ h)]
  ·rw [Array.toList_inj.1 (yM ih _ _ h)]
  ·simp only [Bool.and_eq_true,beq_iff_eq] at h;rw [h.1,h.2]
  ·simp only [Bool.and_eq_true,beq_iff_eq] at h;rw [h.1.1.1,h.1.1.2,h.1.2,h.2]
  ·rw [eq_of_beq h]
  ·simp only [Bool.and_eq_true,beq_iff_eq] at h;rw [h.1.1,Array.toList_inj.1 (yM ih _ _ h.1.2),Array.toList_inj.1 (yM ih _ _ h.2)]
  ·cases h
omit [aa] in
theorem Bq {v:Value} {lim:Nat}:∀ {l:List (Value×H)},sameAll v lim l=true→∀ p∈l,p.1=v∧lim≤p.2.mw
 |[],_,p,hp=>by cases hp
 |(x,h)::r,hs,p,hp=>by
  simp only [sameAll,Bool.and_eq_true] at hs
  cases hp with
  |head=>exact ⟨(Ad _ _ _ hs.1.1).symm,Nat.le_of_ble_eq_true hs.1.2⟩
  |tail _ hp=>exact Bq hs.2 p hp
theorem WY {h0:H} {l:List (Value×H)} {outs:List Out} (hm:merge h0 l=some outs) {v:Value} {h:H} (hmem:(v,h)∈l) {ρ ρ':Ren} {w w':World} {v':Value} {mw:Nat} (hr0:HR G h0 ρ w)
 (hv:VR h.nx ρ' v v') (hr:HR G h ρ' w') (ht:Tr G {hp:=h0.hp,nx:=h0.nx,mw:=mw} h ρ ρ' w w'):
 ∃ v1 h1,Out.call v1 h1∈outs∧VR h1.nx ρ' v1 v'∧HR G h1 ρ' w'∧Tr G h0 h1 ρ ρ' w w':=by
 unfold merge at hm
 split at hm
 ·cases hmem
 ·rename_i v1 h1
  cases hm
  obtain ⟨rfl,rfl⟩:v=v1∧h=h1:=by
   cases hmem with
   |head=>exact ⟨rfl,rfl⟩
   |tail _ h=>cases h
  refine ⟨v,_,List.mem_cons_self,hv,⟨hr.obj,hr.inj,hr.jI,hr.bound⟩,ht.nx,ht.agree,ht.os,ht.tape,ht.output,ht.size,ht.block,ht.own,?_,?_,ht.glo,ht.keep⟩
  ·show (bif Nat.ble h0.mw h.mw then h0.mw else h.mw)≤h0.mw
   cases hb:Nat.ble h0.mw h.mw with
   |true=>exact Nat.le_refl _
   |false=>
    rcases Nat.le_total h0.mw h.mw with h2|h2
    ·rw [Nat.ble_eq_true_of_le h2] at hb;cases hb
    ·exact h2
  ·intro i hi hmw
   refine ht.same i hi ?_
   have aak:i<(bif Nat.ble h0.mw h.mw then h0.mw else h.mw):=hmw
   cases hb:Nat.ble h0.mw h.mw with
   |true=>rw [hb] at aak;exact Nat.lt_of_lt_of_le aak (Nat.le_of_ble_eq_true hb)
   |false=>rw [hb] at aak;exact aak
 ·rename_i v1 h1 r _
  cases hb:(af 8 v1&&sameAll v1 h0.nx ((v1,h1)::r)) with
  |false=>rw [hb] at hm;cases hm
  |true=>
   rw [hb,cond_true] at hm;cases hm
   simp only [Bool.and_eq_true] at hb
   obtain ⟨e1,e2⟩:=Bq hb.2 _ hmem
   simp only at e1 e2
   subst e1
   have hvv:v'=v:=nW 8 _ _ hb.1 hv
   subst hvv
   have hag:Agree h0.nx ρ ρ':=ht.agree
   have hsame:∀ i,In h0.nx ρ i→h.hp.get i=h0.hp.get i:=fun i hi=>ht.same i hi (Nat.lt_of_lt_of_le hi.1 e2)
   refine ⟨v',h0,List.mem_cons_self,eO 8 _ hb.1,⟨?_,?_,hr.jI,hr0.bound⟩,Nat.le_refl _,hag,ht.os,ht.tape,ht.output,ht.size,ht.block,?_,Nat.le_refl _,fun _ _ _=>rfl,fun _ _=>rfl,ht.keep⟩
   ·intro i o hi
    obtain ⟨hin,ob,_,ji⟩:=hr0.obj i o hi
    have hi':h.hp.get i=some o:=by rw [hsame i hin];exact hi
    obtain ⟨_,VH,h2,h3⟩:=hr.obj i o hi'
    exact ⟨hin.mono (Nat.le_refl _) hag,VH,h2,h3.narrow ji hag⟩
   ·intro i j hi hj e
    obtain ⟨oi,hoi⟩:=bW hi
    obtain ⟨oj,hoj⟩:=bW hj
    refine hr.inj i j ?_ ?_ e
    ·rw [hsame i (hr0.obj i oi hoi).1];exact hi
    ·rw [hsame j (hr0.obj j oj hoj).1];exact hj
   ·intro i hG hi
    obtain ⟨oi,hoi⟩:=bW hi
    exact .inl ⟨i,hG,hi,by rw [hag i (hr0.obj i oi hoi).1]⟩
omit [aa] in
theorem run_map {α β:Type} (f:α→β) (s:Sem α) (w:World):(f<$>s).run P w=(s.run P w).andThen fun a w=> .ok (f a) w:=by
 rw [map_eq_pure_bind,Sem.run_bind]
 rfl
def DN (tmps:Array Value):ResultVar→Sem Value
 | .tmp t=>pure (tmps.getD t undef)
 | .cell a t=>do loadVar t (←asAddr (tmps.getD a undef))
omit [aa] in
theorem O4 (fn:Func) (tmps:Array Value):results fn tmps=(do
 let vs ←fn.results.mapM (DN tmps)
 pure (if h:vs.size=1 then vs[0] else .tuple vs)):=by
 have:(fun r:ResultVar=>(match r with
  | .tmp t=>pure (tmps.getD t undef)
  | .cell a t=>do loadVar t (←asAddr (tmps.getD a undef)):Sem Value))=DN tmps:=funext fun r=>by cases r<;>rfl
 rw [←this];rfl
theorem LF {h:H} {ρ:Ren} {w:World} {tm:TV} {tmps:Array Value} (hr:HR G h ρ w) (ht:TR h.nx ρ tm tmps):∀ (rs:List ResultVar) (l:List Value),ja P tm h rs=some l→
 ∃ l',V2 h.nx ρ l l'∧(rs.mapM (DN tmps)).run P w= .ok l' w:=by
 intro rs
 induction rs with
 |nil=>intro l hl;cases hl;exact ⟨[],L2.nil,rfl⟩
 |cons r rs ih=>
  intro l hl
  cases r with
  |tmp t=>
   simp only [ja] at hl
   split at hl
   ·rename_i v l0 h1 h2
    cases hl
    obtain ⟨l',g1,g2⟩:=ih l0 h2
    obtain ⟨v',g3,g4⟩:=ht t v h1
    refine ⟨v'::l',L2.cons g4 g1,?_⟩
    rw [List.mapM_cons,Sem.run_bind]
    have:tmps.getD t undef=v':=by simp [g3]
    simp only [DN,Sem.run_pure,Result.andThen,this,Sem.run_bind,g2]
   ·cases hl
  |cell a t=>
   simp only [ja] at hl
   split at hl
   ·rename_i i k l0 h1 h2
    cases hq:h.yj P t i k with
    |none=>rw [hq] at hl;cases hl
    |some v=>
     rw [hq,Option.map_some] at hl;cases hl
     obtain ⟨l',g1,g2⟩:=ih l0 h2
     obtain ⟨p',g3,g4⟩:=ht a _ h1
     obtain ⟨_,v',g5,g6⟩:=K9 (P:=P) hr hq
     cases g4
     refine ⟨v'::l',L2.cons g5 g1,?_⟩
     rw [List.mapM_cons,Sem.run_bind]
     have:tmps.getD a undef= .pointer (some ⟨(ρ i).1,(ρ i).2.1+k,none⟩):=by simp [g3]
     have h3:(asAddr (tmps.getD a undef)).run P w= .ok ⟨(ρ i).1,(ρ i).2.1+k,none⟩ w:=by rw [this];rfl
     simp only [DN,Sem.run_bind,h3,Sem.run_pure,Result.andThen,g6,g2]
   ·cases hl
theorem O5 {n:Nat} {ρ:Ren} {l l':List Value} (h:V2 n ρ l l'):VR n ρ (BV l) (if h:l'.toArray.size=1 then l'.toArray[0] else .tuple l'.toArray):=by
 cases l with
 |nil=>rw [h.bZ];exact VR.tuple' L2.nil
 |cons a l=>
  obtain ⟨b,t,rfl,hab,h2⟩:=h.aL
  cases l with
  |nil=>rw [h2.bZ];exact hab
  |cons c l=>
   obtain ⟨d,t,rfl,hcd,h3⟩:=h2.aL
   rw [dif_neg (by simp)]
   show VR n ρ (.tuple _) _
   exact VR.tuple' h
theorem LG {h:H} {ρ:Ren} {w:World} {tm:TV} {tmps:Array Value} (hr:HR G h ρ w) (ht:TR h.nx ρ tm tmps) {fn:Func} {l:List Value} (hl:ja P tm h fn.results.toList=some l):
 ∃ v',VR h.nx ρ (BV l) v'∧(results fn tmps).run P w= .ok v' w:=by
 obtain ⟨l',h1,h2⟩:=LF (P:=P) hr ht _ _ hl
 refine ⟨_,O5 h1,?_⟩
 rw [O4,Sem.run_bind,Array.mapM_eq_mapM_toList,run_map,h2]
 rfl
omit [aa] in
theorem step_collected {fr:Frame} {cs:List Frame} {w w':World} {b:Nat} {args:Array Value} {ds:List Deferred} (hm:fr.mode= .returning) (hd:fr.defers= {target:= .collected b,args:=args}::ds)
 (hr:(Instr.takeDeferred b).run P w= .ok [] w'):step P (lone fr cs w)= .next (lone {fr with defers:=ds} cs w'):=
 step_lone_go (by simp [stepG,unwind,hm,hd,Sem.runT_eq,hr,GStep.bare_after])
theorem WZ {ih:Task→Option (List Out)} (hN:dV P) (hI:IH P G ih) {fn:Func} {tm:TV}:∀ (ds:List Deferred) (h:H) (res:List (Value×H)),mE P G ih fn tm ds h=some res→
 ∀ (fr:Frame) cs w ρ,fr.mode= .returning→L2 (ru h.nx ρ) ds fr.defers→HR G h ρ w→TR h.nx ρ tm fr.tmps→
   ∃ p∈res,∃ v' ρ' w',VR p.2.nx ρ' p.1 v'∧HR G p.2 ρ' w'∧Tr G h p.2 ρ ρ' w w'∧Steps P (lone fr cs w) (lone {fr with defers:=[]} cs w')∧(results fn fr.tmps).run P w'= .ok v' w':=by
 intro ds
 induction ds with
 |nil=>
  intro h res hv fr cs w ρ hm hd hr ht
  simp only [mE] at hv
  cases hl:ja P tm h fn.results.toList with
  |none=>rw [hl] at hv;cases hv
  |some l=>
   rw [hl] at hv;cases hv
   obtain ⟨v',h1,h2⟩:=LG (P:=P) hr ht hl
   have hd0:=hd.bZ
   have hfr:({fr with defers:=[]}:Frame)=fr:=by cases fr;simp_all
   exact ⟨_,List.mem_cons_self,v',ρ,w,h1,hr,Tr.refl _ _ _ _,by rw [hfr];exact Steps.refl _ _,h2⟩
 |cons d ds ih2=>
  intro h res hv fr cs w ρ hm hd hr ht
  obtain ⟨d',ds',e1,hdd,hds⟩:=hd.aL
  simp only [mE] at hv
  obtain ⟨ha,htg⟩:=hdd
  obtain ⟨tgt,args⟩:=d
  obtain ⟨tgt',args'⟩:=d'
  simp only at ha htg hv
  rcases htg with ⟨bk,e2,hb,e3⟩|⟨g,c,c',e2,e3,hc⟩
  ·subst e2 e3
   simp only at hv
   split at hv
   ·rename_i hg
    cases hq:Nat.ble G bk with
    |false=>rw [hq] at hv;cases hv
    |true=>
     rw [hq,cond_true] at hv
     obtain ⟨_,ob,ji,iD⟩:=hr.obj _ _ hg
     generalize hbt:true=bt at iD
     cases iD with
     |defs _=>
      subst hbt
      simp only [if_true] at ji
      obtain ⟨s1,s2,s3⟩:=lZ (o':= .deferred none) (hr.lt hg)
      obtain ⟨p2,p3⟩:=hr.put (w':={w with heap:=w.heap.setIfInBounds (ρ bk).1 (.deferred none)}) hg (Nat.le_of_ble_eq_true hq) (.defs false) s1 s3 s2 rfl rfl rfl (.defs false)
      have hrun:(Instr.takeDeferred (ρ bk).1).run P w= .ok [] {w with heap:=w.heap.setIfInBounds (ρ bk).1 (.deferred none)}:=by
       simp only [Instr.takeDeferred,Sem.run_bind,getObj,Sem.run,ji,Result.andThen,og ji (fun _ _ _=>by simp),Sem.run_pure]
      have hst:=step_collected (cs:=cs) hm e1 hrun
      obtain ⟨p,hp,v',ρ',w',g1,g2,g3,g4,g5⟩:=ih2 _ _ hv {fr with defers:=ds'} cs _ ρ hm (p3.df hds) p2 (ht.mono p3.nx p3.agree)
      exact ⟨p,hp,v',ρ',w',g1,g2,p3.trans g3,Steps.head hst g4,g5⟩
   ·cases hv
  ·subst e2 e3
   simp only at hv
   split at hv
   ·rename_i gn hgn
    split at hv
    ·rename_i cb hbody
     obtain ⟨l,hl,hmm⟩:=iI hv
     have hargs:V2 h.nx ρ (args.toList++c.toList) (args'++c').toList:=by rw [Array.toList_append];exact L2.append ha hc
     have hst:=step_defer (P:=P) (cs:=cs) (w:=w) (fr:=fr) (f:=g) (args:=args'++c') (by rw [hm];simp) e1 rfl (by simp only [invoke];exact ry hN hgn hbody _ w)
     obtain ⟨v1,h1,hmem,v1',ρ1,w1,fr1,k1,k2,k3,k4,k5⟩:=(hI _ _ hl) .deferred _ ({fr with defers:=ds'}::cs) w ρ hr hargs (.inr ⟨rfl,_,_,rfl,hm⟩)
     obtain ⟨x,hx,hmx⟩:=hmm _ hmem
     obtain ⟨q1,q2,q3,q4,fn1,q5,q6⟩:=k5
     have hback:=step_going_returned (P:=P) (c:={fr with defers:=ds'}) (cs:=cs) (w:=w1) (v:=v1') q3 ⟨q1,q2,fn1,by rw [q4];exact q5,q6⟩
     have hset:({({fr with defers:=ds'}:Frame) with mode:=settle ({fr with defers:=ds'}:Frame).mode}:Frame)= {fr with defers:=ds'}:=by
      cases fr;simp only at hm;subst hm;rfl
     rw [hset] at hback
     obtain ⟨p,hp,v',ρ',w',g1,g2,g3,g4,g5⟩:=ih2 _ _ hx {fr with defers:=ds'} cs w1 ρ1 hm (k3.df hds) k2 (ht.mono k3.nx k3.agree)
     exact ⟨p,hmx _ hp,v',ρ',w',g1,g2,k3.trans g3,Steps.head hst (Steps.trans k4 (Steps.head hback g4)),g5⟩
    ·cases hv
   ·cases hv
omit [aa] in
theorem TZ:∀ (l:List Value) (i:Nat) (t:TV) (j:Nat),(Dp l i t).get j=if i≤j∧j<i+l.length then l[j-i]? else t.get j:=by
 intro l
 induction l with
 |nil=>intro i t j;simp only [Dp];rw [if_neg (by simp)]
 |cons v l ih=>
  intro i t j
  simp only [Dp]
  rw [ih,TV.fT]
  by_cases h:i+1≤j∧j<i+1+l.length
  ·rw [if_pos h,if_pos (by simp;omega),show j-i=(j-(i+1))+1 by omega,List.getElem?_cons_succ]
  ·rw [if_neg h]
   by_cases e:j=i
   ·subst e;rw [if_pos rfl,if_pos (by simp),Nat.sub_self];rfl
   ·rw [if_neg e,if_neg (by simp;omega)]
theorem LH {ih:Task→Option (List Out)} (hN:dV P) (hI:IH P G ih) {f:FuncId} {args:List Value} {h:H} {outs:List Out} (hv:nV P G ih f args h=some outs):TP P G f args h outs:=by
 intro kind args' cs w ρ hr ha hk
 unfold nV at hv
 split at hv
 ·rename_i fn hf
  split at hv
  ·rename_i c hbody
   cases hb:Nat.ble args.length fn.ntmps with
   |false=>rw [hb] at hv;cases hv
   |true=>
    rw [hb,cond_true] at hv
    have hlen:=Nat.le_of_ble_eq_true hb
    split at hv
    ·rename_i l hl
     obtain ⟨os,hos,hm⟩:=iI hl
     let b:Frame:={(default:Frame) with fn:=f,kind:=kind,roundOf:=none}
     have henter:Frame.enter P f args' kind=b.atR {tmps:=args'++Array.replicate (fn.ntmps-args'.size) undef,defers:=[]} [.code c]:=by
      simp [Frame.enter,Frame.atR,hf,hbody,b]
     have hasz:args'.size=args.length:=by rw [ha.1];simp
     have hsr:SR G {tm:=Dp args 0 .e,sz:=fn.ntmps,df:=[],h:={hp:=h.hp,nx:=h.nx,mw:=far}} ρ {tmps:=args'++Array.replicate (fn.ntmps-args'.size) undef,defers:=[]} w:=by
      refine ⟨⟨hr.obj,hr.inj,hr.jI,hr.bound⟩,?_,by simp;omega,L2.nil⟩
      intro t v htv
      rw [TZ,TV.Gr] at htv
      by_cases hc:0≤t∧t<0+args.length
      ·rw [if_pos hc] at htv
       obtain ⟨y,h1,h2⟩:=ha.get htv
       refine ⟨y,?_,h2⟩
       show (args'++_)[t]? =some y
       rw [Array.getElem?_append_left (by omega)]
       simpa using h1
      ·rw [if_neg hc] at htv;cases htv
     obtain ⟨e,s1,hm1,a1,ρ1,w1,g1,g2,g3⟩:=(hI _ _ hos) b _ [] cs w ρ hsr rfl hk
     obtain ⟨x,hx,hmx⟩:=hm _ hm1
     have fin:mE P G ih fn s1.tm s1.df s1.h=some x→∀ todo,Steps P (lone (Frame.enter P f args' kind) cs w) (lone {b.atR a1 todo with mode:= .returning} cs w1)→
      ∃ v h',Out.call v h'∈outs∧∃ v' ρ' w' fr,VR h'.nx ρ' v v'∧HR G h' ρ' w'∧Tr G h h' ρ ρ' w w'∧Steps P (lone (Frame.enter P f args' kind) cs w) (lone fr cs w')∧Left P fr f kind v' w':=by
      intro hx2 todo hst
      obtain ⟨p,hp,v',ρ',w',k1,k2,k3,k4,k5⟩:=WZ (P:=P) hN hI s1.df s1.h x hx2 {b.atR a1 todo with mode:= .returning} cs w1 ρ1 rfl g1.d g1.hr g1.t
      obtain ⟨v1,h1,m1,m2,m3,m4⟩:=WY hv (hmx _ hp) (mw:=far) hr k1 k2 (g2.trans k3)
      exact ⟨v1,h1,m1,v',ρ',w',_,m2,m3,m4,Steps.trans hst k4,rfl,rfl,rfl,rfl,fn,hf,k5⟩
     rw [←henter] at g3
     cases e with
     |normal=>exact fin hx [] (Steps.trans g3 (Steps.one (stepR_end rfl)))
     |exit id=>cases hx
     |ret=>
      obtain ⟨todo,g4⟩:=g3
      exact fin hx (.code .ret::todo) (Steps.trans g4 (Steps.one (stepR_ret rfl)))
    ·cases hv
  ·cases hv
 ·cases hv
end Go.CE
