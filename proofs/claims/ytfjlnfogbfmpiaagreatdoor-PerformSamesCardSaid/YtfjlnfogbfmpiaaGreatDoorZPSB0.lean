/-
  The texts V1 S1 V2 of this claim, one behind the other.
-/
import Derived.Test.YtfjlnfogbfmpiaaGreatDoorProg
import Derived.Test.YtfjlnfogbfmpiaaGreatDoorZPSA0
import Derived.Deep.Slices
import Derived.Deep.Fields
import Derived.ChangeSame
import Derived.SizedLaws
import Derived.ProofKit
import Derived.WalkSpells
import Derived.WalkLawsBesides
import Derived.Deep.Light
import Derived.Lib.Hide
set_option maxRecDepth 100000
namespace Go.Proofs.YtfjlnfogbfmpiaaGreatDoor.Va
open Go Go.RowKit Go.ChangeShapes Go.WideShapes Go.Deep Nu
noncomputable def fieldsV:Array Field:=match Tryz.prog.underlying 25 with|some (.struct fs)=>fs|_=>#[]
theorem underV:Tryz.prog.underlying 25=some (.struct fieldsV):=by kernel_rfl
theorem sizeV:fieldsV.size=5:=by kernel_rfl
theorem cellsV:Tryz.prog.cellsOf 25=5:=by kernel_rfl
theorem bytesV:Tryz.prog.bytesOf 25=64:=by kernel_rfl
theorem oneV:oneCellFields Tryz.prog fieldsV=true:=by kernel_rfl
theorem typesV:fieldsV.toList.map (·.type)=[3,22,9,23,3]:=by kernel_rfl
theorem fieldV (j:Nat) (t:TypeId) (h:[3,22,9,23,3][j]? =some t):∃ f:Field,fieldsV[j]? =some f∧f.type=t:=by
 rw [←typesV,List.getElem?_map] at h
 rw [Array.getElem?_toList] at h
 cases hf:fieldsV[j]? with
 |none=>rw [hf] at h;cases h
 |some f=>rw [hf] at h;exact ⟨f,rfl,by simpa using h⟩
theorem list_of {α:Type} {Q:Nat→α→Prop}:∀ n:Nat,(∀ i,i<n→∃ e,Q i e)→∃ es:List α,es.length=n∧∀ i e,es[i]? =some e→Q i e
 |0,_=>⟨[],rfl,fun i e h=>by simp at h⟩
 |n+1,h=>by
  obtain ⟨es,hl,he⟩:=list_of n fun i hi=>h i (by omega)
  obtain ⟨e,hq⟩:=h n (by omega)
  refine ⟨es++[e],by simp [hl],fun i x hx=>?_⟩
  rcases Nat.lt_or_ge i es.length with hi|hi
  ·rw [List.getElem?_append_left hi] at hx
   exact he i x hx
  ·rw [List.getElem?_append_right hi] at hx
   have:i-es.length=0:=by
    have:=(List.getElem?_eq_some_iff.1 hx).1
    simp at this
    omega
   rw [this] at hx
   simp at hx
   subst hx
   obtain rfl:i=n:=by omega
   exact hq
section
variable {H:Type} {enc:TypeId×Value→H} {w:World} {base:Nat} {spare:Nat→Bool} {held:Bool}
theorem wf_i64 {k:Int} (h:(Lit.int .i64 k).wf=true): -9223372036854775808≤k∧k≤9223372036854775807:=by
 have h':(decide (IntKind.i64.min≤k)&&decide (k≤IntKind.i64.max))=true:=h
 simp only [Bool.and_eq_true,decide_eq_true_eq] at h'
 exact h'
theorem wf_u64 {k:Int} (h:(Lit.int .u64 k).wf=true):0≤k∧k≤18446744073709551615:=by
 have h':(decide (IntKind.u64.min≤k)&&decide (k≤IntKind.u64.max))=true:=h
 simp only [Bool.and_eq_true,decide_eq_true_eq] at h'
 exact h'
theorem open_value {cs:List Value} {n:Nat} {x:DataW H×List MemPlace} (h:DataW.trod enc Tryz.prog w base spare held n 25 cs=some x) (hl:cs.length=5):
 ∃ (k m:Int) (s:ByteArray) (lv:Value) (e:Int) (n':Nat) (y:DataW H×List MemPlace),n=n'+1∧cs=[.int .i64 k,.int .u64 m,.string s,lv,.int .i64 e]∧(∀ l,(VT.mk k m s e l).Fine)∧DataW.trod enc Tryz.prog w base spare held n' 23 [lv]=some y:=by
 obtain ⟨ys,n',hn',hy,hlen,hyl,hf⟩:=DataW.trod_struct underV h
 have one:∀ (j:Nat) (t:TypeId),[3,22,9,23,3][j]? =some t→∃ v y,cs[j]? =some v∧DataW.trod enc Tryz.prog w base spare held n' t [v]=some y:=by
  intro j t ht
  obtain ⟨f,hj,rfl⟩:=fieldV j t ht
  obtain ⟨ho,hk⟩:=hone_of oneV j f hj
  have hjl:j<5:=by rw [←sizeV];exact (Array.getElem?_eq_some_iff.1 hj).1
  have h1:=hf j f hj
  rw [ho,hk] at h1
  have hone':(cs.drop j).take 1=[cs[j]'(by omega)]:=by
   rw [List.drop_eq_getElem_cons (by omega)]
   rfl
  rw [hone'] at h1
  have hys:ys[j]? =some (ys[j]'(by rw [hyl,sizeV];omega)):=List.getElem?_eq_getElem _
  exact ⟨_,_,List.getElem?_eq_getElem (by omega),h1.trans hys⟩
 obtain ⟨v0,y0,e0,t0⟩:=one 0 3 rfl
 obtain ⟨v1,y1,e1,t1⟩:=one 1 22 rfl
 obtain ⟨v2,y2,e2,t2⟩:=one 2 9 rfl
 obtain ⟨v3,y3,e3,t3⟩:=one 3 23 rfl
 obtain ⟨v4,y4,e4,t4⟩:=one 4 3 rfl
 obtain ⟨k0,hk0,_,w0⟩:=DataW.trod_int Tryz.underlying3 t0
 obtain ⟨k1,hk1,_,w1⟩:=DataW.trod_int Tryz.underlying22 t1
 obtain ⟨k2,hk2,_,w2⟩:=DataW.trod_string Tryz.underlying9 t2
 obtain ⟨k4,hk4,_,w4⟩:=DataW.trod_int Tryz.underlying3 t4
 simp only [List.cons.injEq,and_true] at hk0 hk1 hk2 hk4
 subst hk0 hk1 hk2 hk4
 refine ⟨k0,k1,k2,v3,k4,n',y3,hn',?_,fun l=>⟨(wf_i64 w0).1,(wf_i64 w0).2,(wf_u64 w1).1,(wf_u64 w1).2,(wf_i64 w4).1,(wf_i64 w4).2,w2⟩,t3⟩
 match cs,hl with
 |[a0,a1,a2,a3,a4],_=>
  simp at e0 e1 e2 e3 e4
  simp [e0,e1,e2,e3,e4]
theorem add_plain (b off j:Nat):(⟨b,off,none⟩:Addr).add j=⟨b,off+j,none⟩:=by
 unfold Addr.add
 split
 ·rename_i h;subst h;rfl
 ·rfl
theorem lt_of_cell {b o:Nat} {v:Value} (h:w.cell? ⟨b,o,none⟩=some v):b<w.heap.size:=by
 rcases Nat.lt_or_ge b w.heap.size with h'|h'
 ·exact h'
 ·exfalso
  unfold World.cell? at h
  rw [show w.heap[b]? =none from Array.getElem?_eq_none h'] at h
  cases h
theorem open_list:∀ {fuel:Nat} {v:Value} {x:DataW H×List MemPlace},DataW.trod enc Tryz.prog w base spare held fuel 23 [v]=some x→∃ ts,LAt w.heap.size w (fuel+1) v ts:=by
 intro fuel
 induction fuel using Nat.strongRecOn with
 |_ fuel ih=>
  intro v x h
  rcases DataW.trod_slice Tryz.underlying23 h with ⟨he,_⟩|⟨a,len,cap,elems,rest,n,hn,he,_,_,hlc,hcm,hlen,hel,_,_⟩
  ·simp only [List.cons.injEq,and_true] at he
   exact ⟨[],.inl ⟨rfl,_,_,he⟩⟩
  ·simp only [List.cons.injEq,and_true] at he
   rcases Nat.eq_zero_or_pos len with h0|hpos
   ·subst h0;exact ⟨[],.inl ⟨rfl,_,_,he⟩⟩
   ·have key:∀ i,i<len→∃ t:VT,t.Fine∧∃ lv,(∀ j u,(t.cells lv)[j]? =some u→w.cell? (a.add (i*5+j))=some u)∧LAt w.heap.size w fuel lv t.list:=by
     intro i hi
     have h1:=hel i hi
     rw [List.getElem?_eq_getElem (by omega)] at h1
     obtain ⟨cs',hc,ht'⟩:=Option.bind_eq_some_iff.1 h1
     rw [cellsV] at hc
     obtain ⟨_,hcl,hat⟩:=World.cells?_some hc
     obtain ⟨k,m,s,lv,e,n',y,hnn,rfl,hfine,hlist⟩:=open_value ht' hcl
     obtain ⟨ts,hts⟩:=ih n' (by omega) hlist
     refine ⟨.mk k m s e ts,hfine ts,lv,fun j u hu=>?_,hts.mono (by omega)⟩
     have hj:j<5:=by
      have:=(List.getElem?_eq_some_iff.1 hu).1
      simpa [VT.cells] using this
     rw [←Go.Deep.add_add,hat j hj]
     exact hu
    obtain ⟨ts,htl,hts⟩:=list_of len key
    have hsp:a.spot=none:=by
     obtain ⟨t,ht⟩:∃ t,ts[0]? =some t:=⟨_,List.getElem?_eq_getElem (by omega)⟩
     obtain ⟨_,lv,hc,_⟩:=hts 0 t ht
     have:=hc 0 _ rfl
     simpa [Addr.add] using World.cell?_spot this
    obtain ⟨b,off,spot⟩:=a
    simp only at hsp
    subst hsp
    have hat:∀ i t,ts[i]? =some t→t.Fine∧∃ lv,At5 w b (off+i*5) t lv∧LAt w.heap.size w fuel lv t.list:=fun i t ht=>by
     obtain ⟨hf,lv,hc,hl⟩:=hts i t ht
     have k:∀ j u,(t.cells lv)[j]? =some u→w.cell? ⟨b,off+i*5+j,none⟩=some u:=fun j u hu=>by
      have:=hc j u hu
      rwa [add_plain,show off+(i*5+j)=off+i*5+j by omega] at this
     exact ⟨hf,lv,⟨k 0 _ rfl,k 1 _ rfl,k 2 _ rfl,k 3 _ rfl,k 4 _ rfl⟩,hl⟩
    refine ⟨ts,.inr ⟨b,off,cap,by rw [htl];exact he,?_,by omega,hat⟩⟩
    obtain ⟨t,ht⟩:∃ t,ts[0]? =some t:=⟨_,List.getElem?_eq_getElem (by omega)⟩
    obtain ⟨_,lv,hc,_⟩:=hat 0 t ht
    exact lt_of_cell hc.kind
end
noncomputable def fieldsF:Array Field:=match Tryz.prog.underlying 27 with|some (.struct fs)=>fs|_=>#[]
theorem underF:Tryz.prog.underlying 27=some (.struct fieldsF):=by kernel_rfl
theorem sizeF:fieldsF.size=3:=by kernel_rfl
theorem cellsF:Tryz.prog.cellsOf 27=7:=by kernel_rfl
theorem fieldsF_at:fieldsF.toList.map (fun f=>(f.type,f.offset,Tryz.prog.cellsOf f.type))=[(9,0,1),(9,1,1),(25,2,5)]:=by kernel_rfl
noncomputable def fieldsS:Array Field:=match Tryz.prog.underlying 30 with|some (.struct fs)=>fs|_=>#[]
theorem underS:Tryz.prog.underlying 30=some (.struct fieldsS):=by kernel_rfl
theorem sizeS:fieldsS.size=9:=by kernel_rfl
theorem cellsS:Tryz.prog.cellsOf 30=19:=by kernel_rfl
theorem fieldsS_at:fieldsS.toList.map (fun f=>(f.type,f.offset,Tryz.prog.cellsOf f.type))=[(3,0,1),(3,1,1),(3,2,1),(27,3,7),(4,10,1),(4,11,1),(25,12,5),(9,17,1),(28,18,1)]:=by kernel_rfl
theorem field_gen {fs:Array Field} {L:List (TypeId×Nat×Nat)} (h:fs.toList.map (fun f=>(f.type,f.offset,Tryz.prog.cellsOf f.type))=L) (j:Nat) (t o k:Nat) (hx:L[j]? =some (t,o,k)):∃ f:Field,fs[j]? =some f∧f.type=t∧f.offset=o∧Tryz.prog.cellsOf f.type=k:=by
 rw [←h,List.getElem?_map] at hx
 rw [Array.getElem?_toList] at hx
 cases hf:fs[j]? with
 |none=>rw [hf] at hx;cases hx
 |some f=>
  rw [hf] at hx
  simp only [Option.map_some,Option.some.injEq,Prod.mk.injEq] at hx
  exact ⟨f,rfl,hx.1,hx.2.1,hx.2.2⟩
section
variable {H:Type} {enc:TypeId×Value→H} {w:World} {base:Nat} {spare:Nat→Bool} {held:Bool}
theorem open_vt {cs:List Value} {n:Nat} {x:DataW H×List MemPlace} (h:DataW.trod enc Tryz.prog w base spare held n 25 cs=some x) (hl:cs.length=5):
 ∃ (t:VT) (lv:Value),cs=t.cells lv∧t.Fine∧LAt w.heap.size w n lv t.list:=by
 obtain ⟨k,m,s,lv,e,n',y,hn,hcs,hf,hlist⟩:=open_value h hl
 obtain ⟨ts,hts⟩:=open_list hlist
 exact ⟨.mk k m s e ts,lv,hcs,hf ts,by rw [hn];exact hts⟩
theorem open_fault {cs:List Value} {n:Nat} {x:DataW H×List MemPlace} (h:DataW.trod enc Tryz.prog w base spare held n 27 cs=some x) (hl:cs.length=7):
 ∃ (c t:ByteArray) (i:VT) (il:Value),cs= .string c:: .string t::i.cells il∧c.size≤maxLen∧t.size≤maxLen∧i.Fine∧LAt w.heap.size w n il i.list:=by
 obtain ⟨ys,n',hn',hy,hlen,hyl,hf⟩:=DataW.trod_struct underF h
 have one:∀ (j t o k:Nat),([(9,0,1),(9,1,1),(25,2,5)]:List (TypeId×Nat×Nat))[j]? =some (t,o,k)→∃ y,DataW.trod enc Tryz.prog w base spare held n' t ((cs.drop o).take k)=some y:=by
  intro j t o k hx
  obtain ⟨f,hj,rfl,rfl,rfl⟩:=field_gen fieldsF_at j t o k hx
  have hjl:j<3:=by rw [←sizeF];exact (Array.getElem?_eq_some_iff.1 hj).1
  exact ⟨_,(hf j f hj).trans (List.getElem?_eq_getElem (by rw [hyl,sizeF];omega))⟩
 match cs,hl with
 |[a0,a1,a2,a3,a4,a5,a6],_=>
  obtain ⟨y0,t0⟩:=one 0 9 0 1 rfl
  obtain ⟨y1,t1⟩:=one 1 9 1 1 rfl
  obtain ⟨y2,t2⟩:=one 2 25 2 5 rfl
  obtain ⟨s0,h0,_,w0⟩:=DataW.trod_string Tryz.underlying9 (show DataW.trod enc Tryz.prog w base spare held n' 9 [a0]=some y0 from t0)
  obtain ⟨s1,h1,_,w1⟩:=DataW.trod_string Tryz.underlying9 (show DataW.trod enc Tryz.prog w base spare held n' 9 [a1]=some y1 from t1)
  obtain ⟨t,lv,h2,hfine,hl2⟩:=open_vt (show DataW.trod enc Tryz.prog w base spare held n' 25 [a2,a3,a4,a5,a6]=some y2 from t2) rfl
  simp only [List.cons.injEq,and_true] at h0 h1
  subst h0 h1
  exact ⟨s0,s1,t,lv,by rw [h2],w0,w1,hfine,hl2.mono (by omega)⟩
theorem open_state {cs:List Value} {n:Nat} {x:DataW H×List MemPlace} (h:DataW.trod enc Tryz.prog w base spare held n 30 cs=some x) (hl:cs.length=19):
 ∃ (k sx o:Int) (c t:ByteArray) (i:VT) (f e:Bool) (a:VT) (tx:ByteArray) (il al lv:Value) (n':Nat) (y:DataW H×List MemPlace),n=n'+1∧(∀ l,cs=(ST.mk k sx o c t i f e a tx l).cells il al lv)∧(∀ l,(ST.mk k sx o c t i f e a tx l).Fine)∧LAt w.heap.size w n il i.list∧LAt w.heap.size w n al a.list∧DataW.trod enc Tryz.prog w base spare held n' 28 [lv]=some y:=by
 obtain ⟨ys,n',hn',hy,hlen,hyl,hf⟩:=DataW.trod_struct underS h
 have one:∀ (j t o k:Nat),([(3,0,1),(3,1,1),(3,2,1),(27,3,7),(4,10,1),(4,11,1),(25,12,5),(9,17,1),(28,18,1)]:List (TypeId×Nat×Nat))[j]? =some (t,o,k)→∃ y,DataW.trod enc Tryz.prog w base spare held n' t ((cs.drop o).take k)=some y:=by
  intro j t o k hx
  obtain ⟨f,hj,rfl,rfl,rfl⟩:=field_gen fieldsS_at j t o k hx
  have hjl:j<9:=by rw [←sizeS];exact (Array.getElem?_eq_some_iff.1 hj).1
  exact ⟨_,(hf j f hj).trans (List.getElem?_eq_getElem (by rw [hyl,sizeS];omega))⟩
 match cs,hl with
 |[a0,a1,a2,a3,a4,a5,a6,a7,a8,a9,a10,a11,a12,a13,a14,a15,a16,a17,a18],_=>
  obtain ⟨y0,t0⟩:=one 0 3 0 1 rfl
  obtain ⟨y1,t1⟩:=one 1 3 1 1 rfl
  obtain ⟨y2,t2⟩:=one 2 3 2 1 rfl
  obtain ⟨y3,t3⟩:=one 3 27 3 7 rfl
  obtain ⟨y4,t4⟩:=one 4 4 10 1 rfl
  obtain ⟨y5,t5⟩:=one 5 4 11 1 rfl
  obtain ⟨y6,t6⟩:=one 6 25 12 5 rfl
  obtain ⟨y7,t7⟩:=one 7 9 17 1 rfl
  obtain ⟨y8,t8⟩:=one 8 28 18 1 rfl
  obtain ⟨k,h0,_,w0⟩:=DataW.trod_int Tryz.underlying3 (show DataW.trod enc Tryz.prog w base spare held n' 3 [a0]=some y0 from t0)
  obtain ⟨sx,h1,_,w1⟩:=DataW.trod_int Tryz.underlying3 (show DataW.trod enc Tryz.prog w base spare held n' 3 [a1]=some y1 from t1)
  obtain ⟨o,h2,_,w2⟩:=DataW.trod_int Tryz.underlying3 (show DataW.trod enc Tryz.prog w base spare held n' 3 [a2]=some y2 from t2)
  obtain ⟨c,t,i,il,h3,wc,wt,fi,hi⟩:=open_fault (show DataW.trod enc Tryz.prog w base spare held n' 27 [a3,a4,a5,a6,a7,a8,a9]=some y3 from t3) rfl
  obtain ⟨f,h4,_⟩:=DataW.trod_bool Tryz.underlying4 (show DataW.trod enc Tryz.prog w base spare held n' 4 [a10]=some y4 from t4)
  obtain ⟨e,h5,_⟩:=DataW.trod_bool Tryz.underlying4 (show DataW.trod enc Tryz.prog w base spare held n' 4 [a11]=some y5 from t5)
  obtain ⟨a,al,h6,fa,ha⟩:=open_vt (show DataW.trod enc Tryz.prog w base spare held n' 25 [a12,a13,a14,a15,a16]=some y6 from t6) rfl
  obtain ⟨tx,h7,_,w7⟩:=DataW.trod_string Tryz.underlying9 (show DataW.trod enc Tryz.prog w base spare held n' 9 [a17]=some y7 from t7)
  simp only [VT.cells,List.cons.injEq,and_true] at h0 h1 h2 h3 h4 h5 h6 h7
  obtain ⟨q3,q4,q5,q6,q7,q8,q9⟩:=h3
  obtain ⟨q12,q13,q14,q15,q16⟩:=h6
  subst h0 h1 h2 h4 h5 h7 q3 q4 q5 q6 q7 q8 q9 q12 q13 q14 q15 q16
  exact ⟨k,sx,o,c,t,i,f,e,a,tx,_,_,a18,n',y8,hn',fun l=>rfl,fun l=>⟨(wf_i64 w0).1,(wf_i64 w0).2,(wf_i64 w1).1,(wf_i64 w1).2,(wf_i64 w2).1,(wf_i64 w2).2,wc,wt,w7,fi,fa⟩,hi.mono (by omega),ha.mono (by omega),t8⟩
theorem open_states:∀ {fuel:Nat} {v:Value} {x:DataW H×List MemPlace},DataW.trod enc Tryz.prog w base spare held fuel 28 [v]=some x→∃ ss,SAt w.heap.size (fuel+1) w (fuel+1) v ss:=by
 intro fuel
 induction fuel using Nat.strongRecOn with
 |_ fuel ih=>
  intro v x h
  rcases DataW.trod_slice Tryz.underlying28 h with ⟨he,_⟩|⟨a,len,cap,elems,rest,n,hn,he,_,_,hlc,hcm,hlen,hel,_,_⟩
  ·simp only [List.cons.injEq,and_true] at he
   exact ⟨[],.inl ⟨rfl,_,_,he⟩⟩
  ·simp only [List.cons.injEq,and_true] at he
   rcases Nat.eq_zero_or_pos len with h0|hpos
   ·subst h0;exact ⟨[],.inl ⟨rfl,_,_,he⟩⟩
   ·have key:∀ i,i<len→∃ s:ST,s.Fine∧∃ il al lv,(∀ j u,(s.cells il al lv)[j]? =some u→w.cell? (a.add (i*19+j))=some u)∧LAt w.heap.size w (fuel+1) il s.info.list∧LAt w.heap.size w (fuel+1) al s.ann.list∧SAt w.heap.size (fuel+1) w fuel lv s.inner:=by
     intro i hi
     have h1:=hel i hi
     rw [List.getElem?_eq_getElem (by omega)] at h1
     obtain ⟨cs',hc,ht'⟩:=Option.bind_eq_some_iff.1 h1
     rw [cellsS] at hc
     obtain ⟨_,hcl,hat⟩:=World.cells?_some hc
     obtain ⟨k,sx,o,c,t,ii,f,e,aa,tx,il,al,lv,n',y,hnn,hcs,hfine,hil,hal,hlist⟩:=open_state ht' hcl
     obtain ⟨ss,hss⟩:=ih n' (by omega) hlist
     refine ⟨.mk k sx o c t ii f e aa tx ss,hfine ss,il,al,lv,fun j u hu=>?_,hil.mono (by omega),hal.mono (by omega),hss.mono (by omega) (by omega)⟩
     have hj:j<19:=by
      have:=(List.getElem?_eq_some_iff.1 hu).1
      simpa [ST.cells] using this
     rw [←Go.Deep.add_add,hat j hj,hcs ss]
     exact hu
    obtain ⟨ss,hsl,hss⟩:=list_of len key
    have hsp:a.spot=none:=by
     obtain ⟨s,hs⟩:∃ s,ss[0]? =some s:=⟨_,List.getElem?_eq_getElem (by omega)⟩
     obtain ⟨_,il,al,lv,hc,_⟩:=hss 0 s hs
     have:=hc 0 _ rfl
     simpa [Addr.add] using World.cell?_spot this
    obtain ⟨b,off,spot⟩:=a
    simp only at hsp
    subst hsp
    have hat:∀ i s,ss[i]? =some s→s.Fine∧∃ il al lv,Cells w b (off+i*19) (s.cells il al lv)∧LAt w.heap.size w (fuel+1) il s.info.list∧LAt w.heap.size w (fuel+1) al s.ann.list∧SAt w.heap.size (fuel+1) w fuel lv s.inner:=fun i s hs=>by
     obtain ⟨hf,il,al,lv,hc,hl⟩:=hss i s hs
     refine ⟨hf,il,al,lv,fun j u hu=>?_,hl⟩
     have:=hc j u hu
     rwa [add_plain,show off+(i*19+j)=off+i*19+j by omega] at this
    refine ⟨ss,.inr ⟨b,off,cap,by rw [hsl];exact he,?_,by omega,hat⟩⟩
    obtain ⟨s,hs⟩:∃ s,ss[0]? =some s:=⟨_,List.getElem?_eq_getElem (by omega)⟩
    obtain ⟨_,il,al,lv,hc,_⟩:=hat 0 s hs
    exact lt_of_cell (hc 0 _ rfl)
theorem open_argS {r:Reach} {b0:Nat} {v:Value} {d:DataW H} {p:List MemPlace} (hv:Value.okWide Tryz.prog w r b0 30 v) (h:DataW.Trod enc Tryz.prog w base spare held 30 v d p):∃ N s,SVAt w.heap.size N w N v s:=by
 obtain ⟨cs,rfl,hsz⟩:=okWide_struct underS hv
 obtain ⟨fuel,hf⟩:=h
 have hl:cs.toList.length=19:=by rw [Array.length_toList,hsz];exact cellsS
 obtain ⟨k,sx,o,c,t,ii,f,e,aa,tx,il,al,lv,n',y,hnn,hcs,hfine,hil,hal,hlist⟩:=open_state hf hl
 obtain ⟨ss,hss⟩:=open_states hlist
 refine ⟨fuel+1,.mk k sx o c t ii f e aa tx ss,hfine ss,il,al,lv,?_,hil.mono (by omega),hal.mono (by omega),hss.mono (by omega) (by omega)⟩
 rw [show cs=((ST.mk k sx o c t ii f e aa tx ss).cells il al lv).toArray from Array.toList_inj.1 ((show cs.toList=_ from hcs ss).trans (by simp))]
 rfl
end
end Go.Proofs.YtfjlnfogbfmpiaaGreatDoor.Va
namespace Go.Proofs.YtfjlnfogbfmpiaaGreatDoor.Va
open Go Go.RowKit Nu
theorem ret_int {k:IntKind} {a b:Int} (h:a=b):Ending.returned (.int k a)= .returned (.int k b):=by rw [h]
theorem ret_bool {a b:Bool} (h:a=b):Ending.returned (.bool a)= .returned (.bool b):=by rw [h]
theorem at5_alloc {B:Nat} {w:World} {b o:Nat} {t:VT} {lv:Value} (h:At5 w b o t lv) {w':World} (hb:Below B w w') (hlt:b<B):At5 w' b o t lv:=h.below hb hlt
theorem below_boxed {w wr:World} {o:Obj} (h:Below (w.heap.size+1) (w.alloc o) wr):Below w.heap.size w wr:=((Below.refl _ _).alloc (Nat.le_refl _) _).trans (h.mono (by omega))
set_option maxHeartbeats 1000000 in
theorem weigh_raw:∀ (N B:Nat) (k m:Int) (s:ByteArray) (e:Int) (l:List VT) (lv:Value) (n:Nat) (w:World),LAt B w N lv l→B≤w.heap.size→s.size≤9223372036854775807→n≤100000→
 Calls Tryz.prog 41 #[.agg #[.int .i64 k,.int .u64 m,.string s,lv,.int .i64 e],.int .i64 n] w fun r w'=>r= .returned (.int .i64 (wts l (n+1+s.size/64):Nat))∧Below w.heap.size w w':=by
 intro N
 induction N with
 |zero=>intro B k m s e l lv n w h;exact h.elim
 |succ N ih=>
  intro B k m s e l lv n w hl hB hx hn
  have HL:=Lib.hid hl
  obtain ⟨p,c,rfl⟩:=hl.slice
  have hlen:=hl.len
  clear hl
  have hlen:l.length≤9223372036854775807:=hlen
  go_enter Tryz.func41,Tryz.ntmps41
  go_wp2
  obtain ⟨W1,hW1⟩:∃ W1,w.alloc (.cells #[.int .i64 k,.int .u64 m,.string s,.slice p l.length c,.int .i64 e] 25)=W1:=⟨_,rfl⟩
  have HW1:=Lib.hid hW1
  have hz1:W1.heap.size=w.heap.size+1:=by rw [←hW1];simp
  have hc2:W1.cell? ⟨w.heap.size,2,none⟩=some (.string s):=by rw [←hW1];simp
  have hc3:W1.cell? ⟨w.heap.size,3,none⟩=some (.slice p l.length c):=by rw [←hW1];simp
  rw [hW1]
  clear hW1
  go_loopw [1,5] (fun v i wr=>∃ (j q:Nat),v= .int .i64 q∧i= .int .i64 j∧j≤l.length∧Hid (wts (l.drop j) q=wts l (n+1+s.size/64))∧Below (w.heap.size+1) W1 wr) (fun _ i _=>l.length-(intOf i).toNat)
  case atStart=>exact ⟨0,n+1+s.size/64,by go_num,rfl,Nat.zero_le _,rfl,Below.refl _ _⟩
  case round=>
   obtain ⟨j,q,rfl,rfl,hj,HQ,hb⟩:=hrel
   have d3:wr.cell? ⟨w.heap.size,3,none⟩=some (.slice p l.length c):=(hb.cell (p:=⟨w.heap.size,3,none⟩) (by simp)).trans hc3
   have hend:∀ (q':Nat),¬j<l.length∨100000<q→Hid (wts (l.drop j) q=wts l (n+1+s.size/64))→(q:Int)=(wts l (n+1+s.size/64):Nat):=fun _ h h'=>by
    have:=h'.out
    rcases h with h|h
    ·obtain rfl:j=l.length:=by omega
     rw [wts_end] at this;omega
    ·rw [wts_big _ h] at this;omega
   have hE:=Lib.hid hend;clear hend
   by_cases hlt:j<l.length
   ·by_cases hq:q≤100000
    ·rcases HL.out with ⟨h0,_⟩|⟨b,off,c',hp,hbB,_,hel⟩
     ·rw [h0] at hlt;exact absurd hlt (by simp)
     ·cases hp
      obtain ⟨t,ht⟩:∃ t,l[j]? =some t:=⟨_,List.getElem?_eq_getElem hlt⟩
      obtain ⟨hf,lv,hat,hl⟩:=hel j t ht
      have hbw:Below B w wr:=(below_boxed (o:= .cells #[.int .i64 k,.int .u64 m,.string s,.slice (some ⟨b,off,none⟩) l.length c,.int .i64 e] 25) (by rw [HW1.out];exact hb)).mono hB
      obtain ⟨e0,e1,e2,e3,e4⟩:=hat.below hbw hbB
      have hl':=Lib.hid (hl.below hbw)
      have hzw:w.heap.size+1≤wr.heap.size:=by have:=hb.size;omega
      have hst:=Lib.hid (wts_step ht hq)
      have hwt:=Lib.hid (wt_eq t q)
      clear hel hl hat
      have htx:t.text.size≤9223372036854775807:=hf.x1
      clear ht
      go_wp2_with (go_at_call 41;refine (ih B t.kind t.num t.text t.elem t.list lv q wr hl'.out (by omega) htx hq).mono ?_;rintro r w2 ⟨rfl,hb2⟩)
      go_roundw
      case rel=>exact ⟨j+1,_,rfl,by go_num,by omega,by rw [←hwt.out,←hst.out];exact HQ.out,hb.trans (hb2.mono (by omega))⟩
      case measure=>simp [intOf];omega
    ·go_wp2
     go_ret
     exact ⟨ret_int (hE.out q (.inr (by omega)) HQ),below_boxed (by rw [HW1.out];exact hb)⟩
   ·go_wp2
    all_goals
     go_ret
     exact ⟨ret_int (hE.out q (.inl hlt) HQ),below_boxed (by rw [HW1.out];exact hb)⟩
theorem weigh_any {N B:Nat} {t:VT} {v:Value} {n:Nat} {w:World} (h:VAt B w N v t) (hB:B≤w.heap.size) (hn:n≤100000):
 Calls Tryz.prog 41 #[v,.int .i64 n] w fun r w'=>r= .returned (.int .i64 (wt t n:Nat))∧Below w.heap.size w w':=by
 obtain ⟨hf,lv,rfl,hl⟩:=h
 rw [wt_eq]
 exact weigh_raw N B _ _ _ _ _ lv n w hl hB hf.x1 hn
end Go.Proofs.YtfjlnfogbfmpiaaGreatDoor.Va
