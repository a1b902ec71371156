/-
  The texts V6 SL B1 B2 B3 SP of this claim, one behind the other.
-/
import Derived.Test.YtfoiaiblggapeaaGreatDoorZPUB6
import Derived.Test.YtfoiaiblggapeaaGreatDoorZPUB9
import Derived.Test.YtfoiaiblggapeaaGreatDoorZPUA1
set_option maxHeartbeats 40000000
set_option maxRecDepth 100000
namespace Go.Proofs.YtfoiaiblggapeaaGreatDoor.Va
open Go Go.RowKit Go.ChangeShapes Go.WideShapes Go.Deep Go.CE Nu Go.Proofs.YtfoiaiblggapeaaGreatDoor.Nm
noncomputable def liveE:MemoE:={f:=7,args:=[],glob:=space,val:= .bool true}
theorem live_says:liveE.says Tryz.prog 7 1000000 []=true:=by kernel_rfl
theorem live_any {w:World} {t:TypeId} (hsp:w.heap[0]? =some (.cells (Lib.asciiSpaceTab.map fun z=>Value.int .u8 z).toArray t (0,0))):
 Calls Tryz.prog 7 #[] w fun e w'=>e= .returned (.bool true)∧Below w.heap.size w w':=
 calls_entry (memo_ok mixed noCount (memo_none _ _) live_says) (lies_tab (g:=0) (by decide) hsp)
section
variable {H:Type} {enc:TypeId×Value→H} {w:World} {base:Nat} {spare:Nat→Bool} {held:Bool}
theorem open_arg {r:Reach} {b0:Nat} {v:Value} {d:DataW H} {p:List MemPlace} (hv:Value.okWide Tryz.prog w r b0 42 v) (h:DataW.Trod enc Tryz.prog w base spare held 42 v d p):∃ N t,VAt w.heap.size w N v t:=by
 obtain ⟨cs,rfl,hsz⟩:=okWide_struct underV hv
 obtain ⟨fuel,hf⟩:=h
 have hl:cs.toList.length=5:=by rw [Array.length_toList,hsz];exact cellsV
 obtain ⟨k,m,s,lv,e,n',y,_,hcs,hfine,hlist⟩:=open_value hf hl
 obtain ⟨ts,hts⟩:=open_list hlist
 refine ⟨n'+1,.mk k m s e ts,hfine ts,lv,?_,hts⟩
 have:cs= #[.int .i64 k,.int .u64 m,.string s,lv,.int .i64 e]:=Array.toList_inj.1 hcs
 rw [this];rfl
end
theorem below_trodAll {H:Type} {enc:TypeId×Value→H} {P:Program} (hl:laidOutB P=true) {W W':World} (hb:Below W.heap.size W W'):
 ∀ {ts:List TypeId} {vs:List Value} {ds:List (DataW H)} {ps:List MemPlace},(∀ t∈ts,P.readableRec t=true∧t<P.types.size)→DataW.TrodAll enc P W 0 (fun _=>true) true ts vs ds ps→(∀ x∈ps,x.block<W.heap.size)→
   DataW.TrodAll enc P W' 0 (fun b=>decide (b<W.heap.size)) true ts vs ds ps
 |[],[],[],_,_,h,_=>h
 |[],[],_::_,_,_,h,_=>h.elim
 |[],_::_,_,_,_,h,_=>h.elim
 |_::_,[],_,_,_,h,_=>h.elim
 |_::_,_::_,[],_,_,h,_=>h.elim
 |t::ts,v::vs,d::ds,ps,ht,⟨p,q,h1,h2,e⟩,hlt=>by
  subst e
  exact ⟨p,q,Below.trod hl (ht t (by simp)).1 (ht t (by simp)).2 h1 hb (fun x hx=>hlt x (List.mem_append_left _ hx)),below_trodAll hl hb (fun x hx=>ht x (List.mem_cons_of_mem _ hx)) h2 (fun x hx=>hlt x (List.mem_append_right _ hx)),rfl⟩
theorem laidOut:laidOutB Tryz.prog=true:=by kernel_rfl
end Go.Proofs.YtfoiaiblggapeaaGreatDoor.Va
namespace Go.Proofs.YtfoiaiblggapeaaGreatDoor.Va
open Go Go.ChangeShapes Go.WideShapes Go.ChangeAt Go.RowKit Nu Uc
noncomputable def fieldsRc:Array Field:=match Tryz.prog.underlying 33 with|some (.struct fs)=>fs|_=>#[]
theorem underRc:Tryz.prog.underlying 33=some (.struct fieldsRc):=by kernel_rfl
theorem sizeRc:fieldsRc.size=2:=by kernel_rfl
theorem cellsRc:Tryz.prog.cellsOf 33=2:=by kernel_rfl
theorem fieldsRc_at:fieldsRc.toList.map (fun f=>(f.type,f.offset,Tryz.prog.cellsOf f.type))=[(3,0,1),(31,1,1)]:=by kernel_rfl
theorem field_genRc {fs:Array Field} {L:List (TypeId×Nat×Nat)} (h:fs.toList.map (fun f=>(f.type,f.offset,Tryz.prog.cellsOf f.type))=L) (j:Nat) (t o k:Nat) (hx:L[j]? =some (t,o,k)):∃ f:Field,fs[j]? =some f∧f.type=t∧f.offset=o∧Tryz.prog.cellsOf f.type=k:=by
 rw [←h,List.getElem?_map] at hx
 rw [Array.getElem?_toList] at hx
 cases hf:fs[j]? with
 |none=>rw [hf] at hx;cases hx
 |some f=>
  rw [hf] at hx
  simp only [Option.map_some,Option.some.injEq,Prod.mk.injEq] at hx
  exact ⟨f,rfl,hx.1,hx.2.1,hx.2.2⟩
section
variable {H:Type} {enc:TypeId×Value→H} {w:World} {base:Nat} {spare:Nat→Bool} {held:Bool}
theorem open_record {cs:List Value} {n:Nat} {x:DataW H×List MemPlace} (h:DataW.trod enc Tryz.prog w base spare held n 33 cs=some x) (hl:cs.length=2):
 ∃ (k:Int) (lv:Value) (ts:List VT) (N:Nat),cs=[.int .i64 k,lv]∧ -9223372036854775808≤k∧k≤9223372036854775807∧LAt w.heap.size w N lv ts:=by
 obtain ⟨ys,n',hn',hy,hlen,hyl,hf⟩:=DataW.trod_struct underRc h
 have one:∀ (j t o k:Nat),([(3,0,1),(31,1,1)]:List (TypeId×Nat×Nat))[j]? =some (t,o,k)→∃ y,DataW.trod enc Tryz.prog w base spare held n' t ((cs.drop o).take k)=some y:=by
  intro j t o k hx
  obtain ⟨f,hj,rfl,rfl,rfl⟩:=field_genRc fieldsRc_at j t o k hx
  have hjl:j<2:=by rw [←sizeRc];exact (Array.getElem?_eq_some_iff.1 hj).1
  exact ⟨_,(hf j f hj).trans (List.getElem?_eq_getElem (by rw [hyl,sizeRc];omega))⟩
 match cs,hl with
 |[a0,a1],_=>
  obtain ⟨y0,t0⟩:=one 0 3 0 1 rfl
  obtain ⟨y1,t1⟩:=one 1 31 1 1 rfl
  obtain ⟨k,h0,_,w0⟩:=DataW.trod_int Tryz.underlying3 (show DataW.trod enc Tryz.prog w base spare held n' 3 [a0]=some y0 from t0)
  obtain ⟨ts,hts⟩:=open_list (show DataW.trod enc Tryz.prog w base spare held n' 31 [a1]=some y1 from t1)
  simp only [List.cons.injEq,and_true] at h0
  subst h0
  obtain ⟨b0,b1⟩:=wf_i64 w0
  exact ⟨k,a1,ts,_,rfl,b0,b1,hts⟩
theorem open_argR {r:Reach} {b0:Nat} {v:Value} {d:DataW H} {p:List MemPlace} (hv:Value.okWide Tryz.prog w r b0 33 v) (h:DataW.Trod enc Tryz.prog w base spare held 33 v d p):∃ k lv ts N,v= .agg #[.int .i64 k,lv]∧ -9223372036854775808≤k∧k≤9223372036854775807∧LAt w.heap.size w N lv ts:=by
 obtain ⟨cs,rfl,hsz⟩:=okWide_struct underRc hv
 obtain ⟨fuel,hf⟩:=h
 have hl:cs.toList.length=2:=by rw [Array.length_toList,hsz];exact cellsRc
 obtain ⟨k,lv,ts,N,hcs,b0,b1,hl2⟩:=open_record hf hl
 have:cs= #[.int .i64 k,lv]:=Array.toList_inj.1 hcs
 exact ⟨k,lv,ts,N,by rw [this],b0,b1,hl2⟩
end
structure LentR (w:World) (N lo hi lb:Nat) (k:Int) (v:Value) (l:List VT):Prop where
 list:LentAt w N lo hi v l
 box:Box w lb [.int .i64 k,v]
 hi_le:hi≤w.heap.size
 lb_lt:lb<w.heap.size
 off:lb<lo∨hi≤lb
theorem LentR.below {w w':World} {N lo hi lb:Nat} {k:Int} {v:Value} {l:List VT} (h:LentR w N lo hi lb k v l) (hb:Below w.heap.size w w'):LentR w' N lo hi lb k v l:=
 ⟨h.list.below h.hi_le hb,h.box.below hb h.lb_lt,Nat.le_trans h.hi_le hb.size,Nat.lt_of_lt_of_le h.lb_lt hb.size,h.off⟩
end Go.Proofs.YtfoiaiblggapeaaGreatDoor.Va
namespace Go.Proofs.YtfoiaiblggapeaaGreatDoor.Va
open Go Go.RowKit Nu Uc
theorem bload_rows {w:World} {a:Addr} {v:Value} (h:w.cell? a=some v):(Instr.loadAt 47 (.pointer (some a))).run Tryz.prog w= .ok v w:=by
 have:=Tryz.underlying47
 have:=Tryz.sizeOf47
 go_simp
theorem bcell_put {v:World} {b o:Nat} {u:Value} (p:Option Addr) (n c:Nat) (hc:v.cell? ⟨b,o,none⟩=some u) (hf:v.frozen? ⟨b,o,none⟩=false):(Instr.storeAt 47 (.pointer (some ⟨b,o,none⟩)) (.slice p n c)).run Tryz.prog v= .ok () (v.setCell ⟨b,o,none⟩ (.slice p n c)):=by
 have:=Tryz.underlying47
 have:=Tryz.sizeOf47
 go_simp
theorem infoBL:(Tryz.prog.info? 31).map (fun i=>(i.zero,i.size,i.bytes))=some (some (.slice none 0 0),1,24):=by kernel_rfl
attribute [-go_sem] Go.Instr.loadAt Go.Instr.storeAt
abbrev BKT:TypeId:=31
theorem book_put {v:World} {bb:Nat} {u:Value} (hc:Cells v bb 0 [u]) (ht:v.there bb 0 1) (p:Option Addr) (n c:Nat):∃ X,(Instr.storeAt 47 (.pointer (some ⟨bb,0,none⟩)) (.slice p n c)).run Tryz.prog v= .ok () X∧Cells X bb 0 [.slice p n c]∧X.there bb 0 1∧v.grownBy X (some bb):=by
 have h0:=ht 0 (by omega)
 rw [Nat.zero_add] at h0
 have h:=bcell_put p n c (hc 0 u rfl) h0.2
 refine ⟨v.setCells bb 0 [.slice p n c],h,fun j x hx=>?_,World.there_setCells ht _ _ _,setCells_grown bb _ _ v⟩
 exact setCells_in (vs:=[.slice p n c]) ht hx
def TakeS (N:Nat):Prop:=∀ (bb:Nat) (bv v:Value) (rows us:List Value) (ts:List VT) (w:World),BookAt BKT w bb bv rows→OL w N v ts us→Blk 0 bb us→rows.length+nodesL ts+1≤1000000000→
    Calls Tryz.prog 30 #[.pointer (some ⟨bb,0,none⟩),v] w fun r w'=>r= .returned (.tuple #[])∧∃ bv',BookAt BKT w' bb bv' (rows++us)∧Below bb w w'
theorem ol_count:∀ {n:Nat} {w:World} {v:Value} {ts:List VT} {us:List Value},OL w n v ts us→us.length≤nodesL ts+1
 |0,_,_,_,_,h=>h.elim
 |n+1,w,v,ts,us,h=>by
  rcases h with ⟨rfl,_,rfl⟩|⟨g,c,vss,_,_,_,_,_,hl,rfl,hel⟩
  ·simp
  ·have:∀ (ts:List VT) (vss:List (List Value)),vss.length=ts.length→(∀ (i:Nat) (t:VT) (us:List Value),ts[i]? =some t→vss[i]? =some us→us.length≤nodes t)→vss.flatten.length≤nodesL ts:=by
    intro ts
    induction ts with
    |nil=>intro vss h _;cases vss with
     |nil=>simp
     |cons a b=>simp at h
    |cons t r ih=>
     intro vss h1 h2
     cases vss with
     |nil=>simp at h1
     |cons a b=>
      have h3:=h2 0 t a rfl rfl
      have h4:=ih b (by simpa using h1) fun i t' us' h5 h6=>h2 (i+1) t' us' h5 h6
      rw [List.flatten_cons,List.length_append,nodesL]
      omega
   have h5:=this ts vss hl fun i t us' h1 h2=>by
    obtain ⟨_,lv,_,ho⟩:=hel i t us' h1 h2
    have:=ol_count ho
    rw [nodes_eq]
    omega
   rw [List.length_append]
   simpa using h5
theorem take_flat:∀ {vss:List (List Value)} {i:Nat} {xs:List Value},vss[i]? =some xs→(vss.take (i+1)).flatten=(vss.take i).flatten++xs
 |[],i,xs,h=>by simp at h
 |a::r,0,xs,h=>by simp at h;subst h;simp
 |a::r,i+1,xs,h=>by
  have:=take_flat (vss:=r) (i:=i) (by simpa using h)
  rw [List.take_succ_cons,List.flatten_cons,this,List.take_succ_cons,List.flatten_cons,List.append_assoc]
theorem ol_part:∀ {ts:List VT} {vss:List (List Value)} {i:Nat},(∀ (i:Nat) (t:VT) (us:List Value),ts[i]? =some t→vss[i]? =some us→us.length≤nodesL t.list+1)→vss.length=ts.length→i≤ts.length→(vss.take i).flatten.length+nodesL (ts.drop i)≤nodesL ts
 |[],vss,i,_,h,hi=>by
  have:vss=[]:=List.eq_nil_of_length_eq_zero h
  subst this
  simp
 |t::r,[],i,_,h,_=>by simp at h
 |t::r,a::b,0,_,_,_=>by simp
 |t::r,a::b,i+1,h,hl,hi=>by
  have h1:=h 0 t a rfl rfl
  have h2:=ol_part (ts:=r) (vss:=b) (i:=i) (fun i t' us' h5 h6=>h (i+1) t' us' h5 h6) (by simpa using hl) (by simpa using hi)
  rw [List.take_succ_cons,List.flatten_cons,List.length_append,List.drop_succ_cons,nodesL,nodes_eq]
  omega
theorem ol_prefix {ts:List VT} {vss:List (List Value)} {m i:Nat} {t:VT} (hv:vss.length=m) (h:∀ (i:Nat) (t:VT) (us:List Value),ts[i]? =some t→vss[i]? =some us→us.length≤nodesL t.list+1) (ht:ts[i]? =some t) (hm:ts.length=m):(vss.take i).flatten.length+nodesL t.list+1≤nodesL ts:=by
 have hi:=(List.getElem?_eq_some_iff.1 ht).1
 have h1:=ol_part (i:=i) h (by omega) (by omega)
 rw [List.drop_eq_getElem_cons hi,nodesL,(List.getElem?_eq_some_iff.1 ht).2,nodes_eq] at h1
 omega
theorem ol_whole {ts:List VT} {vss:List (List Value)} {m:Nat} (hv:vss.length=m) (h:∀ (i:Nat) (t:VT) (us:List Value),ts[i]? =some t→vss[i]? =some us→us.length≤nodesL t.list+1) (hm:ts.length=m):vss.flatten.length≤nodesL ts:=by
 have h1:=ol_part (i:=m) h (by omega) (by omega)
 rw [List.take_of_length_le (by omega)] at h1
 omega
theorem own_ne {n bb:Nat} {w:World} {T:TypeId} {v:Value} {xs:List Value} (h:w.ownsRow (bb+1) T 1 v n xs):v.ownBlock=none∨v.ownBlock≠some bb:=by
 cases hv:v.ownBlock with
 |none=>exact .inl rfl
 |some b=>exact .inr (fun e=>by cases e;have:=(World.ownsRow.lt h bb hv).1;omega)
theorem rowSlice {lo n:Nat} {w:World} {T:TypeId} {v:Value} {xs:List Value} (h:w.ownsRow lo T 1 v n xs):∃ p c,v= .slice p n c:=by
 rcases h.2 with ⟨rfl,h0⟩|⟨g,c,_,rfl,_⟩
 ·exact ⟨none,0,by rw [h0]⟩
 ·exact ⟨_,c,rfl⟩
theorem take_of {N:Nat} (hT:TakeS N) (bb:Nat) (bv lv:Value) (rows us:List Value) (t:VT) (w:World) (hb:BookAt BKT w bb bv rows) (ho:OL w N lv t.list us) (hk:Blk 0 bb us) (hn:rows.length+nodesL t.list+1≤1000000000):
 Calls Tryz.prog 22 #[.pointer (some ⟨bb,0,none⟩),t.agg lv] w fun r w'=>r= .returned (.tuple #[])∧∃ bv',BookAt BKT w' bb bv' (rows++us)∧Below bb w w':=by
 obtain ⟨p,c,rfl⟩:=ho.slice
 obtain ⟨W1,hW1⟩:∃ W1,w.alloc (.cells #[.int .i64 t.kind,.int .u64 t.num,.string t.text,.slice p t.list.length c,.int .i64 t.elem] 42)=W1:=⟨_,rfl⟩
 obtain ⟨x1,hz1,hb1⟩:=one_box (cs:=t.cells (.slice p t.list.length c)) hW1
 have l1:=wload_slice (x1.cell (j:=3) rfl)
 have HC:=Lib.hid (hT bb bv (.slice p t.list.length c) rows us t.list W1 (hb.below hb1) (ho.below hb1) hk hn)
 have HB:Hid (Below bb w W1):=hb1.mono (Nat.le_of_lt hb.lt)
 clear hb ho hk hn x1 hb1
 go_enter Tryz.func22,Tryz.ntmps22
 go_wp2_with (go_at_call 30;refine HC.out.mono ?_;rintro r w2 ⟨rfl,hq⟩;have HQ:=Lib.hid hq;clear hq)
 go_end0
 obtain ⟨bv',h1,h2⟩:=HQ.out
 exact ⟨rfl,bv',h1,HB.out.trans h2⟩
theorem takes:∀ N,TakeS N:=by
 intro N
 induction N with
 |zero=>intro bb bv v rows us ts w _ h;exact h.elim
 |succ N ih=>
  intro bb bv v rows us ts w hb ho hk hn
  have HO:=Lib.hid ho
  obtain ⟨p,c,rfl⟩:=ho.slice
  have hlen:ts.length≤1000000000:=by have:=nodesL_len ts;omega
  obtain ⟨m,hm⟩:∃ m,ts.length=m:=⟨_,rfl⟩
  have Hm:=Lib.hid hm
  rw [hm] at hlen HO ⊢
  have HB0:=Lib.hid hb
  have HK:=Lib.hid hk
  have HN:=Lib.hid hn
  obtain ⟨vss,hvl,hus,hel⟩:∃ vss:List (List Value),vss.length=m∧us=vss.flatten++[.slice p m c]∧∀ (i:Nat) (t:VT) (xs:List Value),ts[i]? =some t→vss[i]? =some xs→∃ g lv,p=some ⟨g,0,none⟩∧g<bb∧t.Fine∧At5 w g (i*5) t lv∧OL w N lv t.list xs:=by
   rcases ho with ⟨h1,h2,h3⟩|⟨g,cc,vss,h1,h2,h3,h4,h5,h6,h7,h8⟩
   ·subst h1
    refine ⟨[],by simpa using hm,by rw [h3,←hm];rfl,fun i t xs h=>by simp at h⟩
   ·rw [hm] at h1
    simp only [Value.slice.injEq] at h1
    obtain ⟨rfl, -,rfl⟩:=h1
    refine ⟨vss,h6.trans hm,by rw [h7,hm],fun i t xs ht hx=>?_⟩
    obtain ⟨hf,lv,ha,hl⟩:=h8 i t xs ht hx
    exact ⟨g,lv,rfl,(hk (.slice (some ⟨g,0,none⟩) m c) (by rw [h7,hm];simp) g rfl).2,hf,ha,hl⟩
  have HVL:=Lib.hid hvl
  have HEL:=Lib.hid hel
  have HUS:=Lib.hid hus
  have HIH:=Lib.hid ih
  clear hb ho hk hn hm hvl hel hus ih
  go_enter Tryz.func30,Tryz.ntmps30
  go_wp2
  go_loopw [4] (fun iv wr=>∃ i:Nat,iv= .int .i64 i∧i≤m∧Hid (Below bb w wr)∧Hid (∃ bv',BookAt BKT wr bb bv' (rows++(vss.take i).flatten))) (fun iv _=>m-(intOf iv).toNat)
  case atStart=>exact ⟨0,rfl,Nat.zero_le _,Below.refl _ _,bv,by simpa using HB0.out⟩
  case round=>
   obtain ⟨i,rfl,hi,HB,HQ⟩:=hrel
   by_cases hlt:i<m
   ·obtain ⟨t,ht⟩:∃ t,ts[i]? =some t:=⟨_,List.getElem?_eq_getElem (by rw [Hm.out];exact hlt)⟩
    obtain ⟨xs,hx⟩:∃ xs,vss[i]? =some xs:=⟨_,List.getElem?_eq_getElem (by rw [HVL.out];exact hlt)⟩
    obtain ⟨g,lv,rfl,hgb,hf,ha,hl⟩:=HEL.out i t xs ht hx
    obtain ⟨bv1,hbk⟩:=HQ.out
    obtain ⟨q,d,rfl⟩:=hl.slice
    have le:=wload_value (at5_cells (ha.below HB.out hgb))
    have hxu:∀ u∈xs,u∈us:=fun u hu=>by rw [HUS.out];exact List.mem_append_left _ (List.mem_flatten.2 ⟨xs,List.mem_of_getElem? hx,hu⟩)
    have hol:OL wr N (.slice q t.list.length d) t.list xs:=hl.heap HB.out.size fun u hu b hb=>HB.out.block b (HK.out u (hxu u hu) b hb).2
    have hcnt:(rows++(vss.take i).flatten).length+nodesL t.list+1≤1000000000:=by
     have h1:=ol_prefix HVL.out (fun i t us h1 h2=>let ⟨_,lv,_,_,_,_,ho⟩:=HEL.out i t us h1 h2;ol_count ho) ht (ts:=ts) (Hm.out)
     have:=HN.out
     rw [List.length_append]
     omega
    have HT:=Lib.hid (take_of HIH.out bb bv1 (.slice q t.list.length d) (rows++(vss.take i).flatten) xs t wr hbk hol (fun u hu b hb=>HK.out u (hxu u hu) b hb) hcnt)
    have HXT:=Lib.hid (take_flat hx)
    have hi0:(0:Int)≤(i:Int):=by omega
    have hi1:(i:Int)<(m:Int):=by omega
    clear hl ha hf hbk ht hx hxu hol hcnt HQ
    go_wp2_with (go_at_call 22;refine HT.out.mono ?_;rintro r w2 ⟨rfl,hq⟩;have HQ:=Lib.hid hq;clear hq)
    go_roundw
    case rel=>
     refine ⟨i+1,by go_num,by omega,?_,?_⟩
     ·obtain ⟨bv',h1,h2⟩:=HQ.out
      exact HB.out.trans h2
     ·obtain ⟨bv',h1,h2⟩:=HQ.out
      refine ⟨bv',?_⟩
      rw [HXT.out,←List.append_assoc]
      exact h1
    case measure=>simp [intOf];omega
   ·obtain rfl:i=m:=by omega
    obtain ⟨bv1,hbk⟩:=HQ.out
    rw [List.take_of_length_le (Nat.le_of_eq HVL.out)] at hbk
    obtain ⟨cs,rfl,hbx,hbt⟩:=hbk.box
    obtain ⟨q,d,rfl⟩:=rowSlice hbk.row
    have hrow:=hbk.row
    have HBK:=Lib.hid hbk
    have l1:=bload_rows (hbx 0 _ rfl)
    obtain ⟨ib,hb0,hb1,hb2,hb3⟩:=info_parts infoBL
    have hcn:(rows++vss.flatten).length+1≤1000000000:=by
     have h1:=ol_whole HVL.out (fun i t us h1 h2=>let ⟨_,lv,_,_,_,_,ho⟩:=HEL.out i t us h1 h2;ol_count ho) (ts:=ts) Hm.out
     have:=HN.out
     rw [List.length_append]
     omega
    obtain ⟨R,hR⟩:∃ R,rows++vss.flatten=R:=⟨_,rfl⟩
    have HR:Hid (rows++us=R++[.slice p i c]):=by show _=_;rw [←hR,HUS.out,List.append_assoc]
    rw [hR] at hrow hcn HBK l1
    obtain ⟨n,hn⟩:∃ n,R.length=n:=⟨_,rfl⟩
    rw [hn] at hrow hcn HBK l1
    have Hn:=Lib.hid hn
    have hmx:n+1≤maxLen:=by unfold maxLen;omega
    have hmb:(n+1)*24≤140737488355328:=by omega
    have hbw:bb<wr.heap.size:=HBK.out.lt
    have zc:Below wr.heap.size wr (wr.alloc (.cells #[.slice p i c] 31)):=(Below.refl _ _).alloc (Nat.le_refl _) _
    have HBA:=Lib.hid (HBK.out.below zc)
    have hrA:=HBA.out.row
    rw [hn] at hrA
    have hBA:bb+1≤(wr.alloc (.cells #[.slice p i c] 31)).heap.size:=by have:=zc.size;omega
    clear hrow hR hcn hn
    go_wp2_with (at_builtin;go_must (refine wpList_append_own_at _ rfl _ _ 47 rfl (bb+1) 31 ib (.slice none 0 0) 1 24 Tryz.underlying47 hb0 hb1 hb2 hb3 rfl (by decide) _ n R rfl hrA ⟨wr.heap.size,0,none⟩ 1 1 [.slice p i c] rfl rfl (cell_one_new _ _ _) (by simp [Value.oneCell']) hmx hmb hBA ?_;intro v' w4 hown4 hgrow4 hnil4 hat4;obtain ⟨q4,d4,rfl⟩:=rowSlice hown4;obtain ⟨cs4,e4,hc4,ht4⟩:=HBA.out.box;have hne4:some bb≠(Value.slice q n d).ownBlock:=(fun e=>by have:=(World.ownsRow.lt hrA bb e.symm).1;omega);have he4:=hgrow4.block bb (by have:=zc.size;omega) hne4;obtain ⟨X9,hst9,hc9,ht9,hg9⟩:=book_put (bb:=bb) (v:=w4) (u:= .slice q n d) (fun j x hx=>(World.cell?_of_block (a:=⟨bb,_,none⟩) he4).trans (hc4 j x (by rw [e4];exact hx))) (there_heap ht4 he4) q4 (n+1) d4;have hrow9:=World.ownsRow.kept hown4 hg9 (own_ne (T:=31) hown4);have HB9:Hid (BookAt BKT X9 bb (.slice q4 (n+1) d4) (R++[.slice p i c])∧Below bb wr X9):=⟨⟨⟨_,rfl,hc9,ht9⟩,(by rw [List.length_append,Hn.out];exact hrow9),(by have:=hg9.size;have:=hgrow4.size;have:=zc.size;omega)⟩,((zc.mono (by omega)).grown hgrow4 (by have:=zc.size;omega) (fun b e=>by have:=(World.ownsRow.lt hrA b e).1;omega)).grown hg9 (by have:=hgrow4.size;have:=zc.size;omega) (fun b e=>by cases e;omega)⟩;clear hown4 hgrow4 hnil4 hat4 hc4 ht4 he4 hc9 ht9 hg9 hrow9 zc))
    go_end0
    exact ⟨rfl,_,by rw [HR.out];exact HB9.out.1,HB.out.trans HB9.out.2⟩
end Go.Proofs.YtfoiaiblggapeaaGreatDoor.Va
namespace Go.Proofs.YtfoiaiblggapeaaGreatDoor.Va
open Go Go.RowKit Nu Uc
theorem bload_u64 {w:World} {a:Addr} {v:Value} (h:w.cell? a=some v):(Instr.loadAt 40 (.pointer (some a))).run Tryz.prog w= .ok v w:=by
 have:=Tryz.underlying40
 have:=Tryz.sizeOf40
 go_simp
attribute [-go_sem] Go.Instr.loadAt Go.Instr.storeAt
def markV (i:Nat):VT:= .mk (-1000-(i:Int)) i ⟨#[]⟩ 0 []
theorem mark_any (i:Nat) (hi:i≤1000000000) (w:World):Calls Tryz.prog 44 #[.int .i64 i] w fun r w'=>r= .returned (.agg #[.int .i64 (-1000-(i:Int)),.int .u64 i,.string ⟨#[]⟩,.slice none 0 0,.int .i64 0])∧Below w.heap.size w w':=by
 obtain ⟨W1,hW1⟩:∃ W1,w.alloc (.cells #[.int .i64 0,.int .u64 0,.string ⟨#[]⟩,.slice none 0 0,.int .i64 0] 42)=W1:=⟨_,rfl⟩
 obtain ⟨x1,hz1,hb1⟩:=one_box (cs:=zeroT.cells (.slice none 0 0)) hW1
 obtain ⟨X,hs,hl,hb,hz,_⟩:=val_store x1 rfl (markV i) none 0 0
 replace hs:(Instr.storeAt 42 (.pointer (some ⟨w.heap.size,0,none⟩)) (.agg #[.int .i64 (-1000-(i:Int)),.int .u64 i,.string ⟨#[]⟩,.slice none 0 0,.int .i64 0])).run Tryz.prog W1= .ok () X:=hs
 have HLV:=Lib.hid hl
 have HB:Hid (Below w.heap.size w X):=hb1.trans hb
 have e1:IntKind.i64.wrap (-1000-(i:Int))= -1000-(i:Int):=by rw [IntKind.wrap_i64];omega
 have e2:IntKind.u64.wrap (i:Int)=(i:Int):=by rw [IntKind.wrap_u64];omega
 clear x1 hb1 hl hb hz hz1
 go_enter Tryz.func44,Tryz.ntmps44
 go_wp2
 exact bodyPost_ret_by (resultsMid rfl rfl HLV.out) rfl ⟨rfl,HB.out⟩
theorem marked_any {own:OB} {w:World} {i M N:Nat} {v:Value} (h:Fam patB own w i M N v) (hMN:N≤M) (hN:N≤4000000000) (hi:i≤1000000000):Calls Tryz.prog 45 #[v,.int .i64 i] w fun r w'=>r= .returned (.bool true)∧w'=w:=by
 obtain ⟨p,n,c,rfl,hnN,hsh⟩:=h.shape
 have HS:=Lib.hid hsh
 have e1:IntKind.i64.wrap (-1000-(i:Int))= -1000-(i:Int):=by rw [IntKind.wrap_i64];omega
 have e2:IntKind.u64.wrap (i:Int)=(i:Int):=by rw [IntKind.wrap_u64];omega
 clear h hsh
 go_enter Tryz.func45,Tryz.ntmps45
 go_wp2
 go_loopw [5] (fun kv wr=>∃ k:Nat,kv= .int .i64 k∧k≤n∧wr=w) (fun kv _=>n-(intOf kv).toNat)
 case atStart=>exact ⟨0,rfl,Nat.zero_le _,rfl⟩
 case round=>
  obtain ⟨k,rfl,hk,rfl⟩:=hrel
  by_cases hlt:k<n
  ·obtain ⟨b,off,rfl,_,_,_,hcell⟩:=HS.out (by omega)
   have hc0:=hcell k (by omega) hlt 0 _ rfl
   have hc1:=hcell k (by omega) hlt 1 _ rfl
   rw [patB_len] at hc0 hc1
   rw [Nat.add_zero] at hc0
   have l0:=pload_int hc0
   have l1:=bload_u64 hc1
   have hk0:(0:Int)≤(k:Int):=by omega
   have hk1:(k:Int)<(n:Int):=by omega
   clear hcell hc0 hc1
   go_wp2
   go_roundw
   case rel=>exact ⟨k+1,by go_num,by omega,trivial⟩
   case measure=>simp [intOf];omega
  ·obtain rfl:k=n:=by omega
   go_wp2
   go_ret
   exact ⟨rfl,rfl⟩
end Go.Proofs.YtfoiaiblggapeaaGreatDoor.Va
namespace Go.Proofs.YtfoiaiblggapeaaGreatDoor.Va
open Go Go.RowKit Nu Uc
attribute [-go_sem] Go.Instr.loadAt Go.Instr.storeAt
theorem bookOwned_any {bb S N:Nat} {bv:Value} {rows:List Value} {w:World} (h:BookAt BKT w bb bv rows) (hr:∀ u∈rows,u= .slice none 0 0∨∃ g k c,u= .slice (some ⟨g,0,none⟩) k c∧g<w.heap.size∧k≤c∧w.there g 0 (c*5)) (hb:Blk S bb rows) (ha:ApartV rows) (hN:∀ u∈rows,∀ p n c,u= .slice p n c→n≤N) (hN2:12≤N∧N≤1000000000) (hm:rows.length≤10000000):
 Calls Tryz.prog 23 #[.pointer (some ⟨bb,0,none⟩)] w fun r w'=>r= .returned (.bool true)∧(S≤w.heap.size→Below S w w'):=by
 obtain ⟨own0,hI0,hS⟩:=book_door h hr hb ha hN
 obtain ⟨bp,bc,rfl⟩:=rowSlice h.row
 obtain ⟨m,hmm⟩:∃ m,rows.length=m:=⟨_,rfl⟩
 have Hm:=Lib.hid hmm
 rw [hmm] at hI0 hm
 have HI0:=Lib.hid hI0
 have HS:=Lib.hid hS
 have HNN:=Lib.hid hN2
 obtain ⟨B0,hB0⟩:∃ B0,w.heap.size=B0:=⟨_,rfl⟩
 rw [hB0] at HI0
 clear h hr hb ha hN hI0 hS hmm hB0
 have HBK:Hid (∀ {own:OB} {gg:List Value} {a:Nat→Nat} {wr:World} {B:Nat} {R:List (Value×List Value)},BInv own0 w B rows gg N a R own wr→(Value.slice (some ⟨bb,0,none⟩) 1 1,[Value.slice bp m bc])∈R→(Instr.loadAt 47 (.pointer (some ⟨bb,0,none⟩))).run Tryz.prog wr= .ok (.slice bp m bc) wr):=fun hI hm=>by
  obtain ⟨kb,e,hc⟩:=hI.at hm (t:=0) rfl
  simp only [Option.some.injEq,Addr.mk.injEq,and_true] at e
  subst e
  exact bload_rows hc
 go_enter Tryz.func23,Tryz.ntmps23
 go_wp2
 go_loopw [3] (fun tv wq=>∃ t:Nat,tv= .int .i64 t∧t≤m∧Hid (∃ own,BInv own0 w B0 rows [] N (fun s=>if s<t then N else 0) [(.slice bp m bc,rows),(.slice (some ⟨bb,0,none⟩) 1 1,[.slice bp m bc])] own wq)) (fun tv _=>m-(intOf tv).toNat)
 case atStart=>exact ⟨0,rfl,Nat.zero_le _,own0,HI0.out.chg fun s _=>by simp⟩
 case round=>
  obtain ⟨t,rfl,ht,HQ⟩:=hrel
  obtain ⟨own,hI⟩:=HQ.out
  have lb:=HBK.out hI (List.mem_cons_of_mem _ List.mem_cons_self)
  by_cases hltt:t<m
  ·obtain ⟨x,hx⟩:∃ x,rows[t]? =some x:=⟨_,List.getElem?_eq_getElem (by rw [Hm.out];exact hltt)⟩
   obtain ⟨xp,xn,xc,rfl,hxn,_⟩:=(hI.vf t x hx).shape
   obtain ⟨kb,rfl,hc0⟩:=hI.at List.mem_cons_self hx
   have l1:=wload_slice hc0
   have HX:=Lib.hid hx
   have HI:=Lib.hid hI
   have ht0:(0:Int)≤(t:Int):=by omega
   have ht1:(t:Int)<(m:Int):=by omega
   clear hx hI HQ hc0
   go_wp2
   clear lb l1
   go_loopw [5] (fun kk wq=>∃ k:Nat,kk= .int .i64 k∧k≤xn∧Hid (∃ own,BInv own0 w B0 rows [] N (fun s=>if s<t then N else if s=t then k else 0) [(.slice (some ⟨kb,0,none⟩) m bc,rows),(.slice (some ⟨bb,0,none⟩) 1 1,[.slice (some ⟨kb,0,none⟩) m bc])] own wq)) (fun kk _=>xn-(intOf kk).toNat)
   case atStart=>exact ⟨0,rfl,Nat.zero_le _,own,HI.out.chg fun s _=>by (repeat' split)<;>omega⟩
   case round=>
    obtain ⟨k,rfl,hk,HQ⟩:=hrel
    by_cases hltk:k<xn
    ·have hMK:=Lib.hid (mark_any t (by omega) wr)
     have hk0:(0:Int)≤(k:Int):=by omega
     have hk1:(k:Int)<(xn:Int):=by omega
     obtain ⟨own,hI⟩:=HQ.out
     obtain ⟨g,hxp⟩:∃ g:Addr,xp=some g:=by
      obtain ⟨p',n',c',e,_,hsh⟩:=(hI.vf t _ HX.out).shape
      simp only [Value.slice.injEq] at e
      obtain ⟨rfl,rfl,rfl⟩:=e
      obtain ⟨g,off,rfl,_⟩:=hsh (by omega)
      exact ⟨_,rfl⟩
     subst hxp
     have HI:=Lib.hid hI
     clear hI HQ
     go_wp2_with (go_at_call 44;refine hMK.out.mono ?_;rintro r w2 ⟨rfl,hb2⟩;have hI2:=HI.out.keep hb2;obtain ⟨p',n',c',e,_,hsh⟩:=(hI2.vf t _ HX.out).shape;simp only [Value.slice.injEq] at e;obtain ⟨e1,rfl,rfl⟩:=e;obtain ⟨g',off,e2,_,hnc,hth,_⟩:=hsh (by omega);rw [e2] at e1;cases e1;have hst:=wstore_value (t:=markV t) (a:=none) (n:=0) (c:=0) (there_at (z:=5) hth (show k<xc by omega));replace hst:(Instr.storeAt 42 (.pointer (some ⟨g',off+k*5,none⟩)) (.agg #[.int .i64 (-1000-(t:Int)),.int .u64 t,.string ⟨#[]⟩,.slice none 0 0,.int .i64 0])).run Tryz.prog w2= .ok () (w2.setCells g' (off+k*5) (patB t)):=hst;have HI3:=Lib.hid (hI2.store (a':=fun s=>if s<t then N else if s=t then k+1 else 0) HX.out (by simp) hltk (by simp) (fun s hs=>by simp [hs]));obtain ⟨X,hX⟩:∃ X,w2.setCells g' (off+k*5) (patB t)=X:=⟨_,rfl⟩;rw [hX] at hst HI3;clear hX hb2 hI2 hsh hth e2)
     go_roundw
     case rel=>exact ⟨k+1,by go_num,by omega,own,HI3.out⟩
     case measure=>simp [intOf];omega
    ·obtain rfl:k=xn:=by omega
     obtain ⟨own,hI⟩:=HQ.out
     have HN:=Lib.hid (hI.full (a':=fun s=>if s<t+1 then N else 0) HX.out (k:=k) (by simp) (Nat.le_refl _) (fun s hs=>by (repeat' split)<;>omega))
     clear hI HQ
     go_wp2
     go_roundw
     case rel=>exact ⟨t+1,by go_num,by omega,own,HN.out⟩
     case measure=>simp [intOf];omega
  ·obtain rfl:t=m:=by omega
   have HQ4:Hid (∃ own,BInv own0 w B0 rows [] N (fun _=>N) [(.slice bp t bc,rows),(.slice (some ⟨bb,0,none⟩) 1 1,[.slice bp t bc])] own wr):=⟨own,hI.chg fun s hs=>by rw [Hm.out] at hs;simp [hs]⟩
   clear HQ hI
   obtain ⟨nf,hf0,hf1,hf2,hf3⟩:=info_parts infoVV
   obtain ⟨il,hl0,hl1,hl2,hl3⟩:=info_parts infoBL
   go_wp2
   clear lb
   go_loopw [6,7] (fun gv tv wq=>∃ (j:Nat) (gg:List Value),tv= .int .i64 j∧j≤t∧gg.length=12*j∧Hid (∃ own,BInv own0 w B0 rows gg N (fun _=>N) [(.slice bp t bc,rows),(.slice (some ⟨bb,0,none⟩) 1 1,[.slice bp t bc])] own wq∧GB B0 31 own wq gv gg)) (fun _ tv _=>t-(intOf tv).toNat)
   case atStart=>
    obtain ⟨own,hI⟩:=HQ4.out
    exact ⟨0,[],rfl,Nat.zero_le _,rfl,own,hI,GB.new⟩
   case round=>
    obtain ⟨j,gg,rfl,hj,hgg,HQ⟩:=hrel
    obtain ⟨own,hI,hG⟩:=HQ.out
    have lb:=HBK.out hI (List.mem_cons_of_mem _ List.mem_cons_self)
    by_cases hltj:j<t
    ·obtain ⟨x,hx⟩:∃ x,rows[j]? =some x:=⟨_,List.getElem?_eq_getElem (by rw [Hm.out];exact hltj)⟩
     have hf:=hI.vf j x hx
     obtain ⟨xp,xn,xc,rfl,hxn,_⟩:=hf.shape
     obtain ⟨kb,rfl,hc0⟩:=hI.at List.mem_cons_self hx
     have l1:=wload_slice hc0
     have HX:=Lib.hid hx
     have HI:=Lib.hid hI
     have HG:=Lib.hid hG
     have HF:=Lib.hid hf
     have ht0:(0:Int)≤(j:Int):=by omega
     have ht1:(j:Int)<(t:Int):=by omega
     clear hx hI hG hf HQ hc0
     go_wp2
     clear lb l1
     go_loopw [6,8,9] (fun gv x kk wq=>∃ (k:Nat) (gg:List Value),kk= .int .i64 k∧k≤12∧gg.length=12*j+k∧Hid (∃ own,BInv own0 w B0 rows gg N (fun _=>N) [(.slice (some ⟨kb,0,none⟩) t bc,rows),(.slice (some ⟨bb,0,none⟩) 1 1,[.slice (some ⟨kb,0,none⟩) t bc])] own wq∧GB B0 31 own wq gv gg∧Fam patB own wq j (N+k) (N+k) x)) (fun _ _ kk _=>12-(intOf kk).toNat)
     case atStart=>exact ⟨0,gg,rfl,by omega,by omega,own,HI.out,HG.out,by rw [Nat.add_zero];exact HF.out⟩
     case round=>
      obtain ⟨k,gg2,rfl,hk,hgg2,HQ⟩:=hrel
      by_cases hltk:k<12
      ·have hk1:(k:Int)<12:=by omega
       have hMK:=Lib.hid (mark_any j (by omega) wr)
       have hmx:N+k+1≤maxLen:=by unfold maxLen;have:=HNN.out;omega
       have hmy:(N+k+1)*64≤140737488355328:=by have:=HNN.out;omega
       have hgl:gg2.length≤120000012:=by omega
       have hmg:gg2.length+1≤maxLen:=Nat.le_trans (Nat.succ_le_succ hgl) (by decide)
       have hmh:(gg2.length+1)*24≤140737488355328:=Nat.le_trans (Nat.mul_le_mul_right 24 (Nat.succ_le_succ hgl)) (by decide)
       go_wp2_with (first
        |(go_at_call 44
          refine hMK.out.mono ?_
          rintro r w2 ⟨rfl,hb2⟩
          obtain ⟨own,hI,hG,hF⟩:=HQ.out
          have hIb:=hI.keep hb2
          have hGb:=hG.keep hI.dom hb2
          have hFb2:=(OStep.grown (pat:=patB) hI.dom ⟨hb2.os,hb2.tape,hb2.output,hb2.size,fun k hk _=>hb2.block k hk⟩ (row:=none) (fun _ e=>by cases e)).fam _ _ _ _ hF
          have hFa:∀ o,Fam patB own (w2.alloc o) j (N+k) (N+k) u8:=fun o=>(OStep.grown hIb.dom (grown_alloc w2 o) (fun _ e=>by cases e)).fam _ _ _ _ hFb2
          clear hI hG hF hFb2 hb2 HQ)
        |(at_builtin;refine wpList_append_fam (pat:=patB) (own:=own) _ rfl _ _ 31 rfl 42 nf _ 5 64 Tryz.underlying31 hf0 hf1 hf2 hf3 rfl (by decide) j rfl (patB_one _) (hIb.alloc _).dom (N+k) _ rfl (hFa _) hmx hmy ⟨w2.heap.size,0,none⟩ rfl (markB_new _ _ _) ?_
          intro x' w3 own3 hst3 hF3 hsh3
          obtain ⟨g',off',n',c',rfl⟩:=hsh3
          have hI3:=(hIb.alloc _).step hst3 (fun _ e=>by cases e)
          have hG3:=(hGb.alloc hIb.dom _).step hst3
          have hFb:∀ o,Fam patB own3 (w3.alloc o) j (N+k+1) (N+k+1) _:=fun o=>(OStep.grown hI3.dom (grown_alloc w3 o) (fun _ e=>by cases e)).fam _ _ _ _ hF3
          have hBw3:B0≤w3.heap.size:=hI3.Bw
          have HI3:=Lib.hid hI3;have HG3:=Lib.hid hG3;have HFb:=Lib.hid hFb
          clear hIb hGb hFa hI3 hG3 hFb hst3 hF3)
        |(at_builtin;go_must (refine wpList_append_own_at _ rfl _ _ 47 rfl B0 31 il (.slice none 0 0) 1 24 Tryz.underlying47 hl0 hl1 hl2 hl3 rfl (by decide) _ gg2.length gg2 rfl (HG3.out.alloc HI3.out.dom _).1 ⟨w3.heap.size,0,none⟩ 1 1 [.slice (some ⟨g',off',none⟩) (n'+1) c'] rfl rfl (cell_one_new _ _ _) (by simp [Value.oneCell']) hmg hmh (by simp;omega) ?_)
          intro vg' w4 hown4 hgrow4 hnil4 hat4
          obtain ⟨hG4,hst4⟩:=(HG3.out.alloc HI3.out.dom _).more (HI3.out.alloc _).dom hown4 hgrow4 hat4
          have HQ4:=Lib.hid (And.intro (((HI3.out.alloc _).stepRow (HG3.out.alloc HI3.out.dom _) hst4).push (hst4.fam _ _ _ _ (HFb.out _)) (by have:=HNN.out;omega) (by omega:gg2.length/12=j)) (And.intro hG4 (hst4.fam _ _ _ _ (HFb.out _))))
          clear hown4 hgrow4 hnil4 hat4 hG4 hst4)
        |go_in)
       go_roundw
       case rel=>exact ⟨k+1,_,by go_num,by omega,by simp;omega,own3,HQ4.out⟩
       case measure=>simp [intOf];omega
      ·obtain rfl:k=12:=by omega
       have HQ5:Hid (∃ own,BInv own0 w B0 rows gg2 N (fun _=>N) [(.slice (some ⟨kb,0,none⟩) t bc,rows),(.slice (some ⟨bb,0,none⟩) 1 1,[.slice (some ⟨kb,0,none⟩) t bc])] own wr∧GB B0 31 own wr u6 gg2):=let ⟨own,h1,h2,_⟩:=HQ.out;⟨own,h1,h2⟩
       have e12:((12:Nat):Int)=12:=rfl
       rw [e12]
       clear HQ
       go_wp2
       go_roundw
       case rel=>exact ⟨j+1,gg2,by go_num,by omega,by omega,HQ5.out⟩
       case measure=>simp [intOf];omega
    ·obtain rfl:j=t:=by omega
     have hI6:=hI.raise hG.1 hG.2
     have hrr:RowR wr.heap.size own wr u6 gg:=hI6.rows _ List.mem_cons_self
     obtain ⟨p6,c6,rfl,hu⟩:=hrr
     obtain ⟨B6,hB6⟩:∃ B6,wr.heap.size=B6:=⟨_,rfl⟩
     rw [hB6] at hI6
     obtain ⟨nG,hnG⟩:∃ n,gg.length=n:=⟨_,rfl⟩
     have HnG:=Lib.hid hnG
     rw [hnG] at hI6 hgg ⊢
     have hnb:nG≤120000000:=by omega
     have HI:=Lib.hid hI6
     have HEND:Hid (S≤w.heap.size→Below S w wr):=fun hs=>hI.st.below hs HS.out
     rename World=>w5
     clear hI hG hu hB6 hI6 HQ hnG hgg
     go_wp2
     clear lb
     go_loopw [10] (fun sv wq=>∃ s:Nat,sv= .int .i64 s∧s≤j∧wq=w5) (fun sv _=>j-(intOf sv).toNat)
     case atStart=>exact ⟨0,rfl,Nat.zero_le _,rfl⟩
     case round=>
      obtain ⟨s,rfl,hs,rfl⟩:=hrel
      have lb:=HBK.out HI.out (List.mem_cons_of_mem _ (List.mem_cons_of_mem _ List.mem_cons_self))
      by_cases hlts:s<j
      ·obtain ⟨x,hx⟩:∃ x,rows[s]? =some x:=⟨_,List.getElem?_eq_getElem (by rw [Hm.out];exact hlts)⟩
       have hMD:=Lib.hid (marked_any (HI.out.vf s x hx) (Nat.le_refl _) (by have:=HNN.out;omega) (by omega))
       obtain ⟨xp,xn,xc,rfl,hxn,_⟩:=(HI.out.vf s x hx).shape
       obtain ⟨kb,rfl,hc0⟩:=HI.out.at (List.mem_cons_of_mem _ List.mem_cons_self) hx
       have l1:=wload_slice hc0
       have hs0:(0:Int)≤(s:Int):=by omega
       have hs1:(s:Int)<(j:Int):=by omega
       clear hx hc0
       go_wp2_with (go_at_call 45;refine hMD.out.mono ?_;rintro r w2 ⟨rfl,rfl⟩)
       go_roundw
       case rel=>exact ⟨s+1,by go_num,by omega,trivial⟩
       case measure=>simp [intOf];omega
      ·obtain rfl:s=j:=by omega
       go_wp2
       clear lb
       go_loopw [12] (fun sv wq=>∃ z:Nat,sv= .int .i64 z∧z≤nG∧wq=wr) (fun sv _=>nG-(intOf sv).toNat)
       case atStart=>exact ⟨0,rfl,Nat.zero_le _,rfl⟩
       case round=>
        obtain ⟨z,rfl,hz,rfl⟩:=hrel
        by_cases hltz:z<nG
        ·obtain ⟨x,hx⟩:∃ x,gg[z]? =some x:=⟨_,List.getElem?_eq_getElem (by rw [HnG.out];exact hltz)⟩
         have hMD:=Lib.hid (marked_any (HI.out.gf z x hx) (Nat.le_refl _) (by have:=HNN.out;omega) (by omega))
         obtain ⟨xp,xn,xc,rfl,hxn,_⟩:=(HI.out.gf z x hx).shape
         obtain ⟨kb,rfl,hc0⟩:=HI.out.at List.mem_cons_self hx
         have l1:=wload_slice hc0
         have ed:(z:Int).tdiv 12=((z/12:Nat):Int):=by
          rw [Int.tdiv_eq_ediv_of_nonneg (by omega)];omega
         have hs0:(0:Int)≤(z:Int):=by omega
         have hs1:(z:Int)<(nG:Int):=by omega
         clear hx hc0
         go_wp2_with (go_at_call 45;refine hMD.out.mono ?_;rintro r w2 ⟨rfl,rfl⟩)
         go_roundw
         case rel=>exact ⟨z+1,by go_num,by omega,trivial⟩
         case measure=>simp [intOf];omega
        ·obtain rfl:z=nG:=by omega
         go_wp2
         go_ret
         exact ⟨rfl,HEND.out⟩
end Go.Proofs.YtfoiaiblggapeaaGreatDoor.Va
namespace Go.Proofs.YtfoiaiblggapeaaGreatDoor.Va
open Go Go.RowKit Nu Uc
theorem RItAns.get2 {P:Nat→Prop} {a:Except Int VT} {w w':World} {r:Ending} (h:RItAns P a (zeroT.agg (.slice none 0 0)) w r w'):Below w.heap.size w w'∧∃ q d M,r= .returned (.tuple #[(okV a).agg (.slice q (okV a).list.length d),.int .i64 (errI a)])∧(okV a).Fine∧LAtP (fun b=>P b∨w.heap.size≤b) w' M (.slice q (okV a).list.length d) (okV a).list:=by
 obtain ⟨hb,h⟩:=h
 refine ⟨hb,?_⟩
 cases a with
 |ok y=>
  obtain ⟨lv,M,h1,h2,h3⟩:=h
  obtain ⟨q,d,rfl⟩:=h3.slice
  exact ⟨q,d,M,h1,h2,h3⟩
 |error e=>exact ⟨none,0,1,h,zeroT_fine,LAtP.nil _ _ _⟩
theorem book_new (w:World) (T:TypeId):BookAt BKT (w.alloc (.cells #[.slice none 0 0] T)) w.heap.size (.slice none 0 0) []:=by
 obtain ⟨x,hz,_⟩:=one_box (w:=w) (cs:=[.slice none 0 0]) (T:=T) rfl
 exact ⟨⟨_,rfl,x.1,x.2⟩,World.ownsRow_nil _ _ _ _,by have:(w.alloc (.cells [Value.slice none 0 0].toArray T)).heap.size=w.heap.size+1:=hz;show w.heap.size<(w.alloc (.cells [Value.slice none 0 0].toArray T)).heap.size;omega⟩
theorem ol_rowlen:∀ {n:Nat} {w:World} {v:Value} {ts:List VT} {us:List Value},OL w n v ts us→∀ u∈us,∀ p m c,u= .slice p m c→m≤nodesL ts
 |0,_,_,_,_,h=>h.elim
 |n+1,w,v,ts,us,h=>by
  intro u hu p m c e
  rcases h with ⟨rfl,rfl,rfl⟩|⟨g,cc,vss,rfl,_,_,_,_,hl,rfl,hel⟩
  ·rw [List.mem_singleton.1 hu] at e
   cases e;exact Nat.zero_le _
  ·rcases List.mem_append.1 hu with hu|hu
   ·obtain ⟨xs,hx,hux⟩:=List.mem_flatten.1 hu
    obtain ⟨i,hi⟩:=List.getElem?_of_mem hx
    obtain ⟨t,ht⟩:∃ t,ts[i]? =some t:=⟨_,List.getElem?_eq_getElem (by have:=(List.getElem?_eq_some_iff.1 hi).1;omega)⟩
    obtain ⟨_,lv,_,ho⟩:=hel i t xs ht hi
    have h1:=ol_rowlen ho u hux p m c e
    have h2:=nodesL_mem (List.mem_of_getElem? ht)
    rw [nodes_eq] at h2
    omega
   ·rw [List.mem_singleton.1 hu] at e
    cases e
    exact nodesL_len ts
theorem pack_small {k:Int} {l:List VT} (h:(nodesL l+13)*2^3≤800000000) (C:Int):nodes (okV (packAns k l C))≤2*nodesL l+3:=by
 unfold packAns
 split
 ·exact pack_nodes2 (mild2F 3) k l
 ·show nodes zeroT≤_
  rw [nodes_zeroT];omega
end Go.Proofs.YtfoiaiblggapeaaGreatDoor.Va
