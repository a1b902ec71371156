/-
  The texts P6 of this claim, one behind the other.
-/
import Derived.Test.YtfoiaiblggapeaaDoorZSFB2
import Derived.Test.YtfoiaiblggapeaaDoorZSFA1
import Derived.Deep.CutRange
import Derived.Deep.CutBlock
set_option maxRecDepth 100000
namespace Go.Proofs.YtfoiaiblggapeaaDoor.Va
open Go Go.RowKit Nu Uc Fd Go.Proofs.YtfoiaiblggapeaaDoor.Nm
attribute [-go_sem] Go.Instr.loadAt Go.Instr.storeAt
def UnpackS (n:Nat):Prop:=∀ (B N:Nat) (t:VT) (lv:Value) (w:World),Env w→t.Fine→LAt B w N lv t.list→B≤w.heap.size→rkO (kindOf t)≤n→(nodes t+13)*2^n≤800000000→
    Calls Tryd.prog 25 #[t.agg lv] w fun r w'=>UnAns (unpackF n t) w r w'
theorem rec_store {v:World} {b:Nat} {cs:List Value} (x:Box v b cs) (hl:cs.length=2) (k:Int) (a:Option Addr) (n c:Nat):∃ X,(Instr.storeAt 31 (.pointer (some ⟨b,0,none⟩)) (.agg #[.int .i64 k,.slice a n c])).run Tryd.prog v= .ok () X∧(loadVar 31 ⟨b,0,none⟩).run Tryd.prog X= .ok (.agg #[.int .i64 k,.slice a n c]) X∧Box X b [.int .i64 k,.slice a n c]∧Below b v X∧X.heap.size=v.heap.size∧∀ j,j≠b→X.heap[j]? =v.heap[j]? :=by
 have y:=x.all (vs:=[.int .i64 k,.slice a n c]) (by rw [hl];rfl)
 refine ⟨v.setCells b 0 [.int .i64 k,.slice a n c],Go.run_storeAt_mid v b 0 31 [.int .i64 k,.slice a n c].toArray (x.part (o:=0) (n:=2) (by omega)) (by kernel_rfl) (by simp [Value.oneCell']),?_,y,setCells_below' (Nat.le_refl _) _ _,setCells_sz ..,fun j hj=>setCells_other hj _ _⟩
 exact Go.run_loadVar_mid _ b 0 31 [.int .i64 k,.slice a n c] _ y.1 Tryd.underlying31 rfl (by kernel_rfl)
theorem field_store {v:World} {b:Nat} {cs:List Value} (x:Box v b cs) (hl:cs.length=9) (f:FT) (a:Option Addr) (n c:Nat):∃ X,(Instr.storeAt 50 (.pointer (some ⟨b,0,none⟩)) (.agg #[.string ⟨f.name.toArray⟩,.int .i64 f.type,.slice a n c,.bool f.must,.int .i64 f.dk,.int .u64 f.dn,.string ⟨f.dt.toArray⟩,.slice none 0 0,.int .i64 0])).run Tryd.prog v= .ok () X∧Box X b (fcell f (.slice a n c))∧Below b v X∧X.heap.size=v.heap.size:=by
 have y:=x.all (vs:=fcell f (.slice a n c)) (by rw [hl];rfl)
 exact ⟨v.setCells b 0 (fcell f (.slice a n c)),Go.run_storeAt_mid v b 0 50 (fcell f (.slice a n c)).toArray (x.part (o:=0) (n:=9) (by omega)) (by kernel_rfl) (by simp [fcell,Value.oneCell']),y,setCells_below' (Nat.le_refl _) _ _,setCells_sz ..⟩
noncomputable def infoVp:TypeInfo:=match Tryd.prog.info? 26 with|some i=>i|none=>default
theorem info_vp:Tryd.prog.info? 26=some infoVp:=by kernel_rfl
theorem infoVp_zero:infoVp.zero=some (.agg #[.int .i64 0,.int .u64 0,.string ⟨#[]⟩,.slice none 0 0,.int .i64 0]):=by kernel_rfl
theorem infoVp_size:infoVp.size=5:=by kernel_rfl
theorem infoVp_bytes:infoVp.bytes=64:=by kernel_rfl
theorem make_values' (w:World) (n:Nat) (hn:n≤100000):∃ C:Array Value,C.size=n*5∧(Instr.makeSlice 24 (.int .i64 n) (.int .i64 n)).run Tryd.prog w= .ok (.slice (some ⟨w.heap.size,0,none⟩) n n) (w.alloc (.cells C 26)):=by
 have:=run_make (P:=Tryd.prog) w 24 26 infoVp _ Tryd.underlying24 info_vp infoVp_zero .i64 .i64 n n (by omega) (Int.le_refl _) (by rw [infoVp_bytes];omega) (by omega)
 rw [infoVp_size] at this
 have e:((n:Int).toNat)=n:=by omega
 rw [e] at this
 exact ⟨_,size_madeCells _ _,this⟩
theorem results_cell_tmp3 {P:Program} {fn:Func} {p q q':Tmp} {ty:TypeId} {tmps:Array Value} {w:World} {g:Nat} {v u u':Value} (h:fn.results= #[.cell p ty,.tmp q,.tmp q']) (hp:tmps.getD p undef= .pointer (some ⟨g,0,none⟩)) (hld:(loadVar ty ⟨g,0,none⟩).run P w= .ok v w) (hq:tmps.getD q undef=u) (hq':tmps.getD q' undef=u'):
 (results fn tmps).run P w= .ok (.tuple #[v,u,u']) w:=by
 have hp':tmps[p]?.getD undef= .pointer (some ⟨g,0,none⟩):=by simpa using hp
 have e1:tmps[q]?.getD undef=u:=by simpa using hq
 have e2:tmps[q']?.getD undef=u':=by simpa using hq'
 simp [results,h,hp',asAddr,hld,e1,e2]
theorem put_back {g m bx:Nat} {X5 Wb V':World} {ys:List VT} {z:VT} {q6:Option Addr} {c6:Nat} {us cs:List Value} (HU:URel g m X5 ys Wb) (hl:ys.length<m) (hW:Below Wb.heap.size Wb V') (x:Box V' bx cs) (hc:cs.length=5) (hbx:Wb.heap.size≤bx) (zf:z.Fine) (zo:OL V' LV (.slice q6 z.list.length c6) z.list us) (zk:Blk Wb.heap.size V'.heap.size us) (za:ApartV us) (zn:∀ u∈us,∀ b,u.ownBlock=some b→b≠bx):
 ∃ X8 X9,(Instr.storeAt 26 (.pointer (some ⟨bx,0,none⟩)) (.agg #[.int .i64 z.kind,.int .u64 z.num,.string z.text,.slice q6 z.list.length c6,.int .i64 z.elem])).run Tryd.prog V'= .ok () X8∧(Instr.loadAt 26 (.pointer (some ⟨bx,0,none⟩))).run Tryd.prog X8= .ok (.agg #[.int .i64 z.kind,.int .u64 z.num,.string z.text,.slice q6 z.list.length c6,.int .i64 z.elem]) X8∧Below Wb.heap.size Wb X8∧
   (Instr.storeAt 26 (.pointer (some ⟨g,ys.length*5,none⟩)) (.agg #[.int .i64 z.kind,.int .u64 z.num,.string z.text,.slice q6 z.list.length c6,.int .i64 z.elem])).run Tryd.prog X8= .ok () X9∧URel g m X5 (ys++[z]) X9:=by
 have hst:=wstore_value (t:=z) (a:=q6) (n:=z.list.length) (c:=c6) (x.part (o:=0) (n:=5) (by omega))
 have y:=x.all (vs:=z.cells (.slice q6 z.list.length c6)) (by rw [hc];rfl)
 have hz:(V'.setCells bx 0 (z.cells (.slice q6 z.list.length c6))).heap.size=V'.heap.size:=setCells_sz ..
 have h8:Below Wb.heap.size Wb (V'.setCells bx 0 (z.cells (.slice q6 z.list.length c6))):=hW.trans (setCells_below' hbx _ _)
 obtain ⟨hth,hstep⟩:=HU.step (w2:=V'.setCells bx 0 (z.cells (.slice q6 z.list.length c6))) (y:=z) (lv:= .slice q6 z.list.length c6) hl h8 zf (zo.heap (by rw [hz];exact Nat.le_refl _) fun u hu b hb=>setCells_other (zn u hu b hb) _ _) (by rw [hz];exact zk) za
 exact ⟨_,_,hst,wload_value y.1,h8,wstore_value hth,hstep⟩
theorem put_zero {bx:Nat} {Wb V':World} {cs:List Value} (x:Box V' bx cs) (hc:cs.length=5) (hW:Below Wb.heap.size Wb V') (hbx:Wb.heap.size≤bx):
 ∃ X8,(Instr.storeAt 26 (.pointer (some ⟨bx,0,none⟩)) (.agg #[.int .i64 0,.int .u64 0,.string ⟨#[]⟩,.slice none 0 0,.int .i64 0])).run Tryd.prog V'= .ok () X8∧Below Wb.heap.size Wb X8:=
 ⟨_,wstore_value (t:=zeroT) (a:=none) (n:=0) (c:=0) (x.part (o:=0) (n:=5) (by omega)),hW.trans (setCells_below' hbx _ _)⟩
set_option maxHeartbeats 8000000 in
theorem unpack_of {n:Nat} (hRC:ReadC n):UnpackS n:=by
 intro B N t lv w hE hft hl hB hrk hnd
 have hnd2:nodes t≤800000000:=by have:=Nat.le_mul_of_pos_right (nodes t+13) (Nat.two_pow_pos n);omega
 obtain ⟨p,c,rfl⟩:=hl.slice
 obtain ⟨W1,hW1⟩:∃ W1,(w.alloc (.cells #[.int .i64 t.kind,.int .u64 t.num,.string t.text,.slice p t.list.length c,.int .i64 t.elem] 26)).alloc (.cells #[.int .i64 0,.slice none 0 0] 31)=W1:=⟨_,rfl⟩
 obtain ⟨x1,x2,hz1,hb1⟩:=two_boxes (cs:=t.cells (.slice p t.list.length c)) (ds:=[.int .i64 0,.slice none 0 0]) hW1
 have l0:=wload_value x1.1
 have hE1:=hE.below hb1
 obtain ⟨⟨ts,hsp⟩,_⟩:=hE1
 have HKC:=Lib.hid (kind_any (N:=N) (B:=B) (d:=t) (v:=t.agg (.slice p t.list.length c)) (w:=W1) ⟨hft,_,rfl,hl.below (hb1.mono hB)⟩ (by omega) hsp)
 have X1:=Lib.hid x1
 have X2:=Lib.hid x2
 have HB1:=Lib.hid hb1
 have HE1:=Lib.hid (hE.below hb1)
 have HL:=Lib.hid hl
 have HRC:=Lib.hid hRC
 have HND:=Lib.hid hnd
 obtain ⟨R,hR⟩:∃ R,unpackF n t=R:=⟨_,rfl⟩
 have HR:=Lib.hid hR
 obtain ⟨o,ho⟩:∃ o,kindOf t=o:=⟨_,rfl⟩
 have HO:=Lib.hid ho
 rw [hR]
 rw [ho] at HKC hrk
 clear hR ho hl x1 x2 hb1 hE hRC hsp hnd
 go_enter Tryd.func25,Tryd.ntmps25
 go_wp2_with (fail)
 clear hW1 l0
 refine HKC.out.mono ?_
 rintro r w2 ⟨rfl,hb2⟩
 have X1b:=Lib.hid (X1.out.below hb2 (by omega))
 have X2b:=Lib.hid (X2.out.below hb2 (by omega))
 have HB2:=Lib.hid (HB1.out.trans (hb2.mono (by omega)))
 have HE2:=Lib.hid (HE1.out.below hb2)
 have z2:W1.heap.size≤w2.heap.size:=hb2.size
 have hfk:=fields_any (kNum o) w2
 unfold FieldsAns at hfk
 unfold kindAns
 obtain ⟨kn,hkn⟩:∃ kn,kNum o=kn:=⟨_,rfl⟩
 have HKN:=Lib.hid hkn
 rw [hkn] at hfk ⊢
 have HFK:=Lib.hid hfk
 obtain ⟨q,hq⟩:∃ q,o.isSome=q:=⟨_,rfl⟩
 rw [hq]
 have HQS:=Lib.hid hq
 clear hb2 hfk hq hkn X1 X2 HB1 HE1 HKC
 go_wp2_with (fail)
 refine HFK.out.mono ?_
 rintro r w3 ⟨vf,rfl,hfo,hb3⟩
 have X1c:=Lib.hid (X1b.out.below hb3 (by omega))
 have HX2:=Lib.hid (X2b.out.below hb3 (by omega))
 have HBW:=Lib.hid (HB2.out.trans (hb3.mono (by omega)))
 have HE3:=Lib.hid (HE2.out.below hb3)
 have z3:w2.heap.size≤w3.heap.size:=hb3.size
 clear hb3 X1b X2b HB2 HE2 HFK
 obtain ⟨of,hof⟩:∃ of,fieldsT kn=of:=⟨_,rfl⟩
 have HOF:=Lib.hid hof
 rw [hof] at hfo ⊢
 clear hof
 cases of with
 |none=>
  rcases hfo with ⟨_,rfl⟩|⟨h,_⟩
  ·have HE:Hid (R= .error (0,70)):=by
    show _=_
    rw [←HR.out]
    refine unpackG_none ?_
    rw [HO.out]
    cases o with
    |none=>rfl
    |some k=>have h1:=HKN.out;have h2:=HOF.out;rw [←h1] at h2;exact h2
   obtain ⟨Xe,hse,hle,_,hbe,hze,_⟩:=rec_store HX2.out rfl 0 none 0 0
   have HLE:=Lib.hid hle
   have HBE:Hid (Below w.heap.size w Xe):=HBW.out.trans (hbe.mono (by omega))
   clear hle hbe hze
   go_wp2
   exact bodyPost_ret_by (results_cell_tmp3 rfl rfl HLE.out rfl rfl) rfl (by rw [HE.out];exact ⟨HBE.out,rfl⟩)
  ·exact absurd rfl h
 |some fs=>
  obtain ⟨k,rfl⟩:∃ k,o=some k:=by
   cases o with
   |none=>
    have h1:=HKN.out;have h2:=HOF.out;rw [←h1] at h2;have h3:fieldsT (kNum none)=none:=by decide
    rw [h3] at h2;cases h2
   |some k=>exact ⟨k,rfl⟩
  obtain rfl:k=kn:=HKN.out
  obtain ⟨d,x,hdx⟩:=kindOf_two HO.out
  have hRR:=unpackG_eq (rd:=readF n) HO.out HOF.out hdx
  have hRR:R=_:=HR.out.symm.trans hRR
  have HRR:=Lib.hid hRR
  have hfl:=fieldsT_len HOF.out
  have hL:=HL.out
  rw [hdx] at hL
  have hX1:=X1c.out
  rw [hdx] at hX1
  cases N with
  |zero=>exact hL.elim
  |succ N=>
  rcases hL with ⟨h0,_⟩|⟨b,off,c',hp,hbB,_,hel⟩
  ·cases h0
  cases hp
  obtain ⟨xf,xlv,xat,xl⟩:=hel 1 x rfl
  obtain ⟨q1,d1,rfl⟩:=xl.slice
  have xat3:=xat.below HBW.out (by omega)
  have e1:off+1*5=off+5:=by omega
  rw [e1] at xat3
  have l1:=wload_slice (hX1.cell (j:=3) rfl)
  have l2:=pload_int xat3.kind
  have l3:=wload_slice xat3.list
  have HXL:=Lib.hid xl
  have hFO:=hfo
  obtain ⟨fp,fc,rfl,hu⟩:=hFO.view
  have HFO:=Lib.hid hfo
  obtain ⟨m,hm⟩:∃ m,fs.length=m:=⟨_,rfl⟩
  have Hm:=Lib.hid hm
  have hnx:nodes x≤nodes t:=by
   have h1:nodes x≤nodesL t.list:=nodesL_mem (by rw [hdx];simp)
   have:=nodes_eq t
   omega
  have HNX:=Lib.hid hnx
  have hgl:x.list.length≤900000000:=by
   have h1:=nodesL_len x.list
   have:=nodes_eq x
   omega
  obtain ⟨gn,hgn⟩:∃ gn,x.list.length=gn:=⟨_,rfl⟩
  have Hgn:=Lib.hid hgn
  simp only [Option.getD_some,Option.isSome_some] at HFO ⊢
  rw [hm] at HFO hfl ⊢
  rw [hgn] at l3 HXL hgl
  clear hfo hFO hu hm hgn hel hX1 xat xat3 xl hRR hdx hnx
  by_cases hx21:x.kind=21
  case neg=>
   have hne:(x.kind !=21)=true:=by simp [hx21]
   have HE:Hid (R= .error (0,70)):=HRR.out.trans (if_pos hx21)
   obtain ⟨Xe,hse,hle,_,hbe,hze,_⟩:=rec_store HX2.out rfl 0 none 0 0
   have HLE:=Lib.hid hle
   have HBE:Hid (Below w.heap.size w Xe):=HBW.out.trans (hbe.mono (by omega))
   clear hle hbe hze
   go_wp2
   exact bodyPost_ret_by (results_cell_tmp3 rfl rfl HLE.out rfl rfl) rfl (by rw [HE.out];exact ⟨HBE.out,rfl⟩)
  have hne:(x.kind !=21)=false:=by simp [hx21]
  have HRR2:=Lib.hid (HRR.out.trans (if_neg (by simp [hx21])))
  by_cases hlen:m<gn
  ·have HE:Hid (R= .error (m,71)):=by rw [←Hm.out,←Hgn.out] at*;exact HRR2.out.trans (if_pos hlen)
   have hlt:decide ((gn:Int)>(m:Int))=true:=by simp;omega
   obtain ⟨Xe,hse,hle,_,hbe,hze,_⟩:=rec_store HX2.out rfl 0 none 0 0
   have HLE:=Lib.hid hle
   have HBE:Hid (Below w.heap.size w Xe):=HBW.out.trans (hbe.mono (by omega))
   clear hle hbe hze
   go_wp2
   exact bodyPost_ret_by (results_cell_tmp3 rfl rfl HLE.out rfl rfl) rfl (by rw [HE.out];exact ⟨HBE.out,rfl⟩)
  have hlt:decide ((gn:Int)>(m:Int))=false:=by simp;omega
  have HRR3:=Lib.hid (HRR2.out.trans (if_neg (by have:=Hm.out;have:=Hgn.out;omega)))
  obtain ⟨C,hC,hmk⟩:=make_values' w3 m (by omega)
  obtain ⟨x3,x4,hz4,hb4⟩:=two_boxes (w:=w3) (cs:=C.toList) (ds:=[.int .i64 0,.slice none 0 0]) (T:=26) (T':=31) rfl
  rw [Array.toArray_toList] at x3 x4 hz4 hb4
  obtain ⟨W4,hW4⟩:∃ W4,(w3.alloc (.cells C 26)).alloc (.cells #[.int .i64 0,.slice none 0 0] 31)=W4:=⟨_,rfl⟩
  have hW4':(w3.alloc (.cells C 26)).alloc (.cells [Value.int .i64 0,.slice none 0 0].toArray 31)=W4:=hW4
  rw [hW4'] at x3 x4 hz4 hb4
  obtain ⟨X5,hs5,hl5,bx5,hb5,hz5,same5⟩:=rec_store x4 rfl k (some ⟨w3.heap.size,0,none⟩) m m
  have hth5:X5.there w3.heap.size 0 (m*5):=there_heap (by have:=x3.2;rw [Array.length_toList,hC] at this;exact this) (same5 _ (by omega))
  have HU0:Hid (URel w3.heap.size m X5 [] X5):=URel.start (by omega) hth5
  have HB5:Hid (Below w3.heap.size w3 X5):=hb4.trans (hb5.mono (by omega))
  have HR5:=Lib.hid bx5
  have z5:X5.heap.size=w3.heap.size+2:=by omega
  clear x3 x4 hz4 hb4 hW4' hl5 bx5 hb5 hz5 same5 hth5 hC
  go_wp2
  go_loopw [56] (fun iv wr=>∃ (j:Nat) (ys:List VT),iv= .int .i64 j∧ys.length=j∧j≤m∧Hid (∀ (k:Nat) (f:FT) (y:VT),fs[k]? =some f→ys[k]? =some y→itemG (readF n) f ((x.list[k]?).getD zeroT)= .ok y)∧Hid (URel w3.heap.size m X5 ys wr)) (fun iv _=>m-(intOf iv).toNat)
  case atStart=>exact ⟨0,[],rfl,rfl,Nat.zero_le _,(by show ∀ (k:Nat) (f:FT) (y:VT),fs[k]? =some f→[][k]? =some y→_;intro k f y _ h;simp at h),HU0.out⟩
  case round=>
   obtain ⟨j,ys,rfl,hlj,hj,HI,HU⟩:=hrel
   by_cases hltj:j<m
   ·obtain ⟨f,hf⟩:∃ f,fs[j]? =some f:=⟨_,List.getElem?_eq_getElem (by rw [Hm.out];exact hltj)⟩
    have HFI:=Lib.hid hf
    have HWR:Hid (Below w3.heap.size w3 wr):=HB5.out.trans HU.out.below
    have hzr:w3.heap.size+2≤wr.heap.size:=by have:=HU.out.size;omega
    obtain ⟨q2,d2,e2,hv⟩:=(HFO.out.below HWR.out).view
    obtain ⟨fb,foff,kv,rfl,hfb,⟨a0,a1,a2,a3,a4,a5,a6,a7,a8⟩,hkv⟩:=hv j f hf
    simp only [Value.slice.injEq] at e2
    obtain ⟨rfl, -, -⟩:=e2
    obtain ⟨kp,kc,rfl,hku⟩:=hkv.view
    have hcf:Cells wr fb (foff+j*9) (fcell f (.slice kp f.kinds.length kc)):=fun j u hu=>by
     match j,hu with
     |0,hu=>cases hu;exact a0
     |1,hu=>cases hu;exact a1
     |2,hu=>cases hu;exact a2
     |3,hu=>cases hu;exact a3
     |4,hu=>cases hu;exact a4
     |5,hu=>cases hu;exact a5
     |6,hu=>cases hu;exact a6
     |7,hu=>cases hu;exact a7
     |8,hu=>cases hu;exact a8
     |j+9,hu=>simp [fcell] at hu
    have lf:=pload_field hcf
    have hj0:(0:Int)≤(j:Int):=by omega
    have hj1:(j:Int)<(m:Int):=by omega
    have hkl:f.kinds.length≤1000:=by
     obtain ⟨e,he,_,h2⟩:=fieldsT_mem HOF.out
     have:=(tab_len e he).2 f (by rw [h2];exact List.mem_of_getElem? hf)
     omega
    have hlit:=field_lit HOF.out (List.mem_of_getElem? hf)
    have hdf:f.dflt.Fine:=⟨by show _≤f.dk;omega,by show f.dk≤_;omega,hlit.1,hlit.2.1,by show _≤(0:Int);omega,by show (0:Int)≤_;omega,by show f.dt.toArray.size≤_;simp [maxLen];omega⟩
    obtain ⟨Wa,hWa⟩:∃ Wa,wr.alloc (.cells #[.string ⟨#[]⟩,.int .i64 0,.slice none 0 0,.bool false,.int .i64 0,.int .u64 0,.string ⟨#[]⟩,.slice none 0 0,.int .i64 0] 50)=Wa:=⟨_,rfl⟩
    obtain ⟨xa,hza,hba⟩:=one_box (cs:=[.string ⟨#[]⟩,.int .i64 0,.slice none 0 0,.bool false,.int .i64 0,.int .u64 0,.string ⟨#[]⟩,.slice none 0 0,.int .i64 0]) hWa
    obtain ⟨Wb,hsf,xb,hbb,hzb⟩:=field_store xa rfl f kp f.kinds.length kc
    have hab:Below wr.heap.size wr Wb:=hba.trans hbb
    have HUb:=Lib.hid (HU.out.keep hab)
    have HBb':Hid (Below w3.heap.size w3 Wb):=HWR.out.trans (hab.mono (by omega))
    have HBb:=HBW.out.trans (HBb'.out.mono (by omega))
    have HBB:=Lib.hid HBb
    have HXb:=HX2.out.below HBb'.out (by omega)
    have hzw:Wb.heap.size=wr.heap.size+1:=by omega
    have HLF:Hid (∀ v,Below Wb.heap.size Wb v→(Instr.loadAt 50 (.pointer (some ⟨wr.heap.size,0,none⟩))).run Tryd.prog v= .ok (fagg f (.slice kp f.kinds.length kc)) v):=fun v h=>pload_field (xb.below h (by omega)).1
    have HRG:Hid (∀ v,Below Wb.heap.size Wb v→(Instr.loadAt 24 (.pointer (some ⟨w3.heap.size+1,1,none⟩))).run Tryd.prog v= .ok (.slice (some ⟨w3.heap.size,0,none⟩) m m) v):=fun v h=>wload_slice (((HUb.out.box HR5.out (by omega) (by omega)).below h (by omega)).cell (j:=1) rfl)
    have hlr0:=HRG.out Wb (Below.refl _ _)
    have hlt0:=pload_int (xb.cell (j:=1) rfl)
    have hlm0:=pload_bool (xb.cell (j:=3) rfl)
    have hld0:(Instr.loadAt 26 (.pointer (some ⟨wr.heap.size,4,none⟩))).run Tryd.prog Wb= .ok (.agg #[.int .i64 f.dk,.int .u64 f.dn,.string ⟨f.dt.toArray⟩,.slice none 0 0,.int .i64 0]) Wb:=wload_value (t:=f.dflt) (lv:= .slice none 0 0) (o:=4) fun i u hu=>by
     have:=xb.1 (4+i) u (by
      match i,hu with
      |0,hu=>exact hu
      |1,hu=>exact hu
      |2,hu=>exact hu
      |3,hu=>exact hu
      |4,hu=>exact hu
      |i+5,hu=>simp [VT.cells] at hu)
     rwa [Nat.zero_add] at this
    have HKS:=Lib.hid (hkv.below hab)
    have HKL:=Lib.hid hkl
    clear hf hv hkv hku a0 a1 a2 a3 a4 a5 a6 a7 a8 hcf xa hba xb hbb hab hkl
    by_cases hjg:j<gn
    case neg=>
     have hge:decide ((j:Int)≥(gn:Int))=true:=by simp;omega
     have hy0:((x.list[j]?).getD zeroT).kind=0:=by rw [List.getElem?_eq_none (by have:=Hgn.out;omega)];rfl
     by_cases hm:f.must=true
     ·have hlm:=hm▸hlm0
      obtain ⟨Xe,hse,hle,_,hbe,hze,_⟩:=rec_store HXb rfl 0 none 0 0
      have HE:Hid (R= .error (j,72)):=HRR3.out.trans (by rw [items_fault hlj HI.out HFI.out (itemG_must hy0 hm)])
      have HLE:=Lib.hid hle
      have HBE:Hid (Below w.heap.size w Xe):=HBb.trans (hbe.mono (by omega))
      clear hle hbe hze
      go_wp2
      exact bodyPost_ret_by (results_cell_tmp3 rfl rfl HLE.out rfl rfl) rfl (by rw [HE.out];exact ⟨HBE.out,rfl⟩)
     ·have hm:f.must=false:=by simpa using hm
      have hlm:=hm▸hlm0
      have HIT:Hid (itemG (readF n) f ((x.list[j]?).getD zeroT)= .ok f.dflt):=itemG_dflt hy0 hm
      obtain ⟨hth,hstep⟩:=HUb.out.step (w2:=Wb) (y:=f.dflt) (lv:= .slice none 0 0) (by omega) (Below.refl _ _) hdf (OL.nil _ _) (Blk.none _ _) (ApartV.one _)
      have hst:=wstore_value (t:=f.dflt) (a:=none) (n:=0) (c:=0) hth
      rw [hlj] at hst hstep
      obtain ⟨X7,hX7⟩:∃ X7,Wb.setCells w3.heap.size (j*5) (f.dflt.cells (.slice none 0 0))=X7:=⟨_,rfl⟩
      rw [hX7] at hst hstep
      replace hst:(Instr.storeAt 26 (.pointer (some ⟨w3.heap.size,j*5,none⟩)) (.agg #[.int .i64 f.dk,.int .u64 f.dn,.string ⟨f.dt.toArray⟩,.slice none 0 0,.int .i64 0])).run Tryd.prog Wb= .ok () X7:=hst
      have HU7:=Lib.hid hstep
      have HI7:=Lib.hid (items_push hlj HI.out HFI.out HIT.out)
      clear hth hstep hX7
      go_wp2
      go_roundw
      case rel=>exact ⟨j+1,_,by go_num,by simp [hlj],by omega,HI7.out,HU7.out⟩
      case measure=>simp [intOf];omega
    have hge:decide ((j:Int)≥(gn:Int))=false:=by simp;omega
    obtain ⟨y,hy⟩:∃ y,x.list[j]? =some y:=⟨_,List.getElem?_eq_getElem (by have:=Hgn.out;omega)⟩
    have hyd:(x.list[j]?).getD zeroT=y:=by rw [hy];rfl
    have hLX:=HXL.out
    cases N with
    |zero=>exact hLX.elim
    |succ N=>
    rcases hLX with ⟨h0,_⟩|⟨qb,qoff,c2,hp2,hqB,_,hel2⟩
    ·rw [h0] at hy;simp at hy
    rw [Hgn.out] at hp2
    cases hp2
    obtain ⟨yf,ylv,yat,yl⟩:=hel2 j y hy
    obtain ⟨yq,yd,rfl⟩:=yl.slice
    have hj2:(j:Int)<(gn:Int):=by omega
    have hwb:Below B w Wb:=HBB.out.mono hB
    have hwz:=HBB.out.size
    have lk:=pload_int (yat.below hwb hqB).kind
    have HYV:Hid (∀ v,Below Wb.heap.size Wb v→(Instr.loadAt 26 (.pointer (some ⟨qb,qoff+j*5,none⟩))).run Tryd.prog v= .ok (y.agg (.slice yq y.list.length yd)) v∧LAt B v N (.slice yq y.list.length yd) y.list∧Env v∧B≤v.heap.size):=fun v h=>
     ⟨wload_value (at5_cells (yat.below (hwb.trans (h.mono (by omega))) hqB)),yl.below (hwb.trans (h.mono (by omega))),(HE3.out.below HBb'.out).below h,by have:=h.size;omega⟩
    have HYF:=Lib.hid yf
    have hny:nodes y≤nodes t:=by
     have h1:nodes y≤nodesL x.list:=nodesL_mem (List.mem_of_getElem? hy)
     have:=nodes_eq x
     have:=HNX.out
     omega
    have HNY:=Lib.hid hny
    have HYD:=Lib.hid hyd
    clear hel2 hy yat yl hwb yf hny hyd
    by_cases hk:y.kind=0
    ·have hy0:((x.list[j]?).getD zeroT).kind=0:=by rw [HYD.out];exact hk
     rw [hk] at lk
     clear hk
     by_cases hm:f.must=true
     ·have hlm:=hm▸hlm0
      obtain ⟨Xe,hse,hle,_,hbe,hze,_⟩:=rec_store HXb rfl 0 none 0 0
      have HE:Hid (R= .error (j,72)):=HRR3.out.trans (by rw [items_fault hlj HI.out HFI.out (itemG_must hy0 hm)])
      have HLE:=Lib.hid hle
      have HBE:Hid (Below w.heap.size w Xe):=HBb.trans (hbe.mono (by omega))
      clear hle hbe hze
      go_wp2
      exact bodyPost_ret_by (results_cell_tmp3 rfl rfl HLE.out rfl rfl) rfl (by rw [HE.out];exact ⟨HBE.out,rfl⟩)
     ·have hm:f.must=false:=by simpa using hm
      have hlm:=hm▸hlm0
      have HIT:Hid (itemG (readF n) f ((x.list[j]?).getD zeroT)= .ok f.dflt):=itemG_dflt hy0 hm
      obtain ⟨hth,hstep⟩:=HUb.out.step (w2:=Wb) (y:=f.dflt) (lv:= .slice none 0 0) (by omega) (Below.refl _ _) hdf (OL.nil _ _) (Blk.none _ _) (ApartV.one _)
      have hst:=wstore_value (t:=f.dflt) (a:=none) (n:=0) (c:=0) hth
      rw [hlj] at hst hstep
      obtain ⟨X7,hX7⟩:∃ X7,Wb.setCells w3.heap.size (j*5) (f.dflt.cells (.slice none 0 0))=X7:=⟨_,rfl⟩
      rw [hX7] at hst hstep
      replace hst:(Instr.storeAt 26 (.pointer (some ⟨w3.heap.size,j*5,none⟩)) (.agg #[.int .i64 f.dk,.int .u64 f.dn,.string ⟨f.dt.toArray⟩,.slice none 0 0,.int .i64 0])).run Tryd.prog Wb= .ok () X7:=hst
      have HU7:=Lib.hid hstep
      have HI7:=Lib.hid (items_push hlj HI.out HFI.out HIT.out)
      clear hth hstep hX7
      go_wp2
      go_roundw
      case rel=>exact ⟨j+1,_,by go_num,by simp [hlj],by omega,HI7.out,HU7.out⟩
      case measure=>simp [intOf];omega
    have hk0:(y.kind==0)=false:=by simp [hk]
    by_cases hs:f.type=101∧y.kind=20
    ·have HIT:Hid (itemG (readF n) f ((x.list[j]?).getD zeroT)= .ok (symArr y)):=by rw [HYD.out];exact itemG_sym hs.1 hs.2
     have hlt1:=hlt0
     rw [hs.1] at hlt1
     rw [hs.2] at lk
     have HCP:Hid (∀ v,Below Wb.heap.size Wb v→Calls Tryd.prog 38 #[y.agg (.slice yq y.list.length yd)] v fun r w'=>∃ lv' us,r= .returned (y.agg lv')∧OL w' N lv' y.list us∧Blk v.heap.size w'.heap.size us∧ApartV us∧Below v.heap.size v w'):=fun v h=>
      copies N B y _ v HYF.out (HYV.out v h).2.1 (HYV.out v h).2.2.2 (by have:=HNY.out;omega)
     have hsyf:(symArr y).Fine:=⟨by show _≤(23:Int);omega,by show (23:Int)≤_;omega,by show (0:Int)≤0;omega,by show (0:Int)≤_;omega,by show _≤(20:Int);omega,by show (20:Int)≤_;omega,by show empt.size≤_;decide⟩
     clear hs hk hlt0
     go_wp2
     have hla:=(HYV.out Wb.drew (Below.refl _ _).drew).1
     have hlr1:=HRG.out Wb.drew (Below.refl _ _).drew
     go_region_with
      ((go_at_call 38
        go_must (
        refine (HCP.out Wb.drew (Below.refl _ _).drew).mono ?_
        rintro r w5 ⟨lv5,us5,rfl,ho5,hbk5,hap5,hb5'⟩
        have hb5:Below Wb.heap.size Wb w5:=(Below.refl _ _).drew.trans hb5'
        have hbk5:Blk Wb.heap.size w5.heap.size us5:=hbk5
        obtain ⟨q5,c5,rfl⟩:=ho5.slice
        have hlr5:=HRG.out w5 hb5
        obtain ⟨W6,hW6⟩:∃ W6,w5.alloc (.cells #[.int .i64 y.kind,.int .u64 y.num,.string y.text,.slice q5 y.list.length c5,.int .i64 y.elem] 26)=W6:=⟨_,rfl⟩
        have hz5:=hb5.size
        obtain ⟨us6,ho6,hbk6,hap6,hb6⟩:=OL.single (lo:=Wb.heap.size) (ho5.lvN (by have:=nodes_eq y;have:=HNY.out;unfold LV;omega)) HYF.out hbk5 hap5 (by have:=HNY.out;omega) hz5 hW6 rfl
        have hbb6:Below Wb.heap.size Wb W6:=hb5.trans (hb6.mono hz5)
        have hlr6:=HRG.out W6 hbb6
        rw [←hW6] at hlr6
        obtain ⟨hth,hstep⟩:=HUb.out.step (w2:=W6) (y:=symArr y) (lv:= .slice (some ⟨w5.heap.size,0,none⟩) 1 1) (by omega) hbb6 hsyf ho6 hbk6 hap6
        have hst:=wstore_value (t:=symArr y) (a:=some ⟨w5.heap.size,0,none⟩) (n:=1) (c:=1) hth
        rw [hlj] at hst hstep
        obtain ⟨X7,hX7⟩:∃ X7,W6.setCells w3.heap.size (j*5) ((symArr y).cells (.slice (some ⟨w5.heap.size,0,none⟩) 1 1))=X7:=⟨_,rfl⟩
        rw [hX7] at hst hstep
        rw [←hW6] at hst
        replace hst:(Instr.storeAt 26 (.pointer (some ⟨w3.heap.size,j*5,none⟩)) (.agg #[.int .i64 23,.int .u64 0,.string ⟨#[]⟩,.slice (some ⟨w5.heap.size,0,none⟩) 1 1,.int .i64 20])).run Tryd.prog (w5.alloc (.cells #[.int .i64 y.kind,.int .u64 y.num,.string y.text,.slice q5 y.list.length c5,.int .i64 y.elem] 26))= .ok () X7:=hst
        have HU7:=Lib.hid hstep
        have HI7:=Lib.hid (items_push hlj HI.out HFI.out HIT.out)
        clear hth hstep hX7 hW6 hbb6 hb6 ho6 hbk6 hap6 ho5 hbk5 hap5 hb5 hb5')))
     all_goals
      go_wp2
      go_roundw
      case rel=>exact ⟨j+1,_,by go_num,by simp [hlj],by omega,HI7.out,HU7.out⟩
      case measure=>simp [intOf];omega
    have HK0:Hid (y.kind≠0):=hk
    have hns:=hs
    clear hs
    go_upto_region 20 with (fail)
    go_cut [56,104] from 56 to 137 (fun s56 s104 wx=>s56= .int .i64 j∧s104= .bool false∧Wb=wx)
    case first=>
     by_cases ht:f.type=101
     ·have hk20:(y.kind==20)=false:=by simp;intro h;exact hns ⟨ht,h⟩
      have hlt1:=hlt0
      rw [ht] at hlt1
      clear ht hlt0
      go_wp2_with (fail)
      go_meet
      exact ⟨rfl,rfl,rfl⟩
     ·have ht1:(f.type==101)=false:=by simp [ht]
      clear ht
      go_wp2_with (fail)
      go_meet
      exact ⟨rfl,rfl,rfl⟩
    case rest=>
     obtain ⟨rfl,rfl,rfl⟩:=hcut
     obtain ⟨Z,hZ⟩:∃ Z,wantedT f y=Z:=⟨_,rfl⟩
     have HZZ:=Lib.hid hZ
     have HWT:Hid (∀ v,Below Wb.heap.size Wb v→Calls Tryd.prog 39 #[fagg f (.slice kp f.kinds.length kc),y.agg (.slice yq y.list.length yd)] v fun r w'=>r= .returned (.bool Z)∧Below v.heap.size v w'):=fun v h=>by
      have:=wanted_any (N:=N) (B:=B) f (.slice kp f.kinds.length kc) y (.slice yq y.list.length yd) v (HYV.out v h).2.2.1 (HKS.out.below h) HKL.out HYF.out (HYV.out v h).2.1 (HYV.out v h).2.2.2
      rw [hZ] at this
      exact this
     clear hZ hk
     go_wp2
     go_region_held3 (fun v=>(Instr.loadAt 50 (.pointer (some ⟨wr.heap.size,0,none⟩))).run Tryd.prog v= .ok (fagg f (.slice kp f.kinds.length kc)) v∧(Instr.loadAt 26 (.pointer (some ⟨qb,qoff+j*5,none⟩))).run Tryd.prog v= .ok (y.agg (.slice yq y.list.length yd)) v)
      (first
        |with_reducible exact ⟨HLF.out _ hb5,(HYV.out _ hb5).1⟩
        |with_reducible exact ⟨HLF.out _ (Below.refl _ _).drew,(HYV.out _ (Below.refl _ _).drew).1⟩
        |with_reducible exact ⟨HLF.out _ (Below.refl _ _),(HYV.out _ (Below.refl _ _)).1⟩)
      ((go_at_call 39;refine (HWT.out _ (Below.refl _ _).drew).mono ?_;rintro r V ⟨rfl,hb5'⟩;have hb5:Below Wb.heap.size Wb V:=(Below.refl _ _).drew.trans hb5';clear hb5'))
     have HVB:=Lib.hid hb5
     clear hb5
     cases Z with
     |false=>
      have HIT:Hid (itemG (readF n) f ((x.list[j]?).getD zeroT)= .error 73):=by rw [HYD.out];exact itemG_bad HK0.out hns HZZ.out
      have HB8:Hid (Below w.heap.size w V):=HBB.out.trans (HVB.out.mono (by omega))
      have hx8:=HX2.out.below (HBb'.out.trans (HVB.out.mono (by omega))) (by omega)
      obtain ⟨Xe,hse,hle,_,hbe,hze,_⟩:=rec_store hx8 rfl 0 none 0 0
      have HE:Hid (R= .error (j,73)):=HRR3.out.trans (by rw [items_fault hlj HI.out HFI.out HIT.out])
      have HLE:=Lib.hid hle
      have HBE:Hid (Below w.heap.size w Xe):=HB8.out.trans (hbe.mono (by omega))
      clear hle hbe hze
      go_wp2
      exact bodyPost_ret_by (results_cell_tmp3 rfl rfl HLE.out rfl rfl) rfl (by rw [HE.out];exact ⟨HBE.out,rfl⟩)
     |true=>
      have HIR:Hid (itemG (readF n) f ((x.list[j]?).getD zeroT)=readF n f y):=by rw [HYD.out];exact itemG_rd HK0.out hns HZZ.out
      clear hns
      by_cases h102:f.type=102
      ·have HFN:Hid (rdFn f= .func (.func 60) #[] #[]):=if_pos h102
       obtain ⟨a,ha⟩:∃ a,readF n f y=a:=⟨_,rfl⟩
       have HRDC:Hid (∀ v,Below V.heap.size V v→Calls Tryd.prog 60 #[y.agg (.slice yq y.list.length yd)] v fun r w'=>ReadAns a v r w'):=fun v h=>by
        have hh:Below Wb.heap.size Wb v:=HVB.out.trans (h.mono HVB.out.size)
        have:=HRC.out B N f y _ v (HYV.out v hh).2.2.1 HYF.out (HYV.out v hh).2.1 (HYV.out v hh).2.2.2 h102 (Nat.lt_of_lt_of_le (wanted_rk HOF.out (List.mem_of_getElem? HFI.out) h102 HZZ.out) hrk) (Nat.le_trans (Nat.mul_le_mul_right _ (Nat.add_le_add_right HNY.out 13)) HND.out)
        rw [ha] at this
        exact this
       have HIA:Hid (itemG (readF n) f ((x.list[j]?).getD zeroT)=a):=HIR.out.trans ha
       have HEA:Hid (∀ e,a= .error e→e≠0):=fun e he=>readF_err n f y e (ha.trans he)
       clear ha h102
       cases a with
       |ok z=>
        have HIT:Hid (itemG (readF n) f ((x.list[j]?).getD zeroT)= .ok z):=HIA.out
        go_upto_region 12 with (fail)
        go_cut [13,14,56] from 56 to 137 (fun s13 s14 s56 wx=>∃ (bx:Nat) (X9:World) (q6:Option Addr) (c6:Nat),s13= .pointer (some ⟨bx,0,none⟩)∧s14= .int .i64 0∧s56= .int .i64 j∧(Instr.loadAt 26 (.pointer (some ⟨bx,0,none⟩))).run Tryd.prog wx= .ok (.agg #[.int .i64 z.kind,.int .u64 z.num,.string z.text,.slice q6 z.list.length c6,.int .i64 z.elem]) wx∧(Instr.storeAt 26 (.pointer (some ⟨w3.heap.size,j*5,none⟩)) (.agg #[.int .i64 z.kind,.int .u64 z.num,.string z.text,.slice q6 z.list.length c6,.int .i64 z.elem])).run Tryd.prog wx= .ok () X9∧(Instr.loadAt 24 (.pointer (some ⟨w3.heap.size+1,1,none⟩))).run Tryd.prog wx= .ok (.slice (some ⟨w3.heap.size,0,none⟩) m m) wx∧Hid (URel w3.heap.size m X5 (ys++[z]) X9))
        case first=>
         have hzD:V.drew.heap.size=V.heap.size:=rfl
         have hD:Below V.heap.size V V.drew:=(Below.refl _ _).drew
         have hDA:Below V.heap.size V ((V.alloc (.cells #[.int .i64 0,.int .u64 0,.string ⟨#[]⟩,.slice none 0 0,.int .i64 0] 26)).drew):=((Below.refl _ _).alloc (Nat.le_refl _) _).drew
         have hld1:=HLF.out V.drew (HVB.out.trans (hD.mono HVB.out.size))
         have hld2:=(HYV.out V.drew (HVB.out.trans (hD.mono HVB.out.size))).1
         have hld1A:=HLF.out ((V.alloc (.cells #[.int .i64 0,.int .u64 0,.string ⟨#[]⟩,.slice none 0 0,.int .i64 0] 26)).drew) (HVB.out.trans (hDA.mono HVB.out.size))
         have hld2A:=(HYV.out ((V.alloc (.cells #[.int .i64 0,.int .u64 0,.string ⟨#[]⟩,.slice none 0 0,.int .i64 0] 26)).drew) (HVB.out.trans (hDA.mono HVB.out.size))).1
         go_region_held3 (fun v=>(Instr.loadAt 50 (.pointer (some ⟨wr.heap.size,0,none⟩))).run Tryd.prog v= .ok (fagg f (.slice kp f.kinds.length kc)) v∧(Instr.loadAt 26 (.pointer (some ⟨qb,qoff+j*5,none⟩))).run Tryd.prog v= .ok (y.agg (.slice yq y.list.length yd)) v)
          (first
            |with_reducible exact hv8
            |with_reducible exact hv7
            |with_reducible exact hv6
            |with_reducible exact ⟨hld3B,hld4B⟩
            |with_reducible exact ⟨hld3,hld4⟩
            |with_reducible exact ⟨hld1A,hld2A⟩
            |with_reducible exact ⟨hld1,hld2⟩)
          ((first
            |(go_at_call 40
              go_must (
              first
               |(refine (readerOf_any f (.slice kp f.kinds.length kc) V.drew).mono ?_
                 rintro r w5 ⟨rfl,hb5'⟩
                 have hb5:Below V.heap.size V w5:=hD.trans hb5')
               |(refine (readerOf_any f (.slice kp f.kinds.length kc) ((V.alloc (.cells #[.int .i64 0,.int .u64 0,.string ⟨#[]⟩,.slice none 0 0,.int .i64 0] 26)).drew)).mono ?_
                 rintro r w5 ⟨rfl,hb5'⟩
                 obtain ⟨xA0,hzA0,_⟩:=one_box (w:=V) (cs:=zeroT.cells (.slice none 0 0)) (T:=26) rfl
                 have hzA:V.heap.size+1≤w5.heap.size:=by have:=hb5'.size;have:((V.alloc (.cells #[.int .i64 0,.int .u64 0,.string ⟨#[]⟩,.slice none 0 0,.int .i64 0] 26)).drew).heap.size=V.heap.size+1:=hzA0;omega
                 have xA1:Box ((V.alloc (.cells #[.int .i64 0,.int .u64 0,.string ⟨#[]⟩,.slice none 0 0,.int .i64 0] 26)).drew) V.heap.size (zeroT.cells (.slice none 0 0)):=xA0.heap rfl
                 have xA:Box w5 V.heap.size (zeroT.cells (.slice none 0 0)):=xA1.below hb5' (by have:((V.alloc (.cells #[.int .i64 0,.int .u64 0,.string ⟨#[]⟩,.slice none 0 0,.int .i64 0] 26)).drew).heap.size=V.heap.size+1:=hzA0;omega)
                 have hb5:Below V.heap.size V w5:=hDA.trans (hb5'.mono hDA.size)
                 clear xA0 xA1 hzA0)
              clear hb5'
              have hz5:V.heap.size≤w5.heap.size:=hb5.size
              have hld3:=HLF.out w5 (HVB.out.trans (hb5.mono HVB.out.size))
              have hld4:=(HYV.out w5 (HVB.out.trans (hb5.mono HVB.out.size))).1
              have hbB:Below V.heap.size V (w5.alloc (.cells #[.int .i64 0,.int .u64 0,.string ⟨#[]⟩,.slice none 0 0,.int .i64 0] 26)):=hb5.trans ((Below.refl _ _).alloc hz5 _)
              have hld4B:=(HYV.out (w5.alloc (.cells #[.int .i64 0,.int .u64 0,.string ⟨#[]⟩,.slice none 0 0,.int .i64 0] 26)) (HVB.out.trans (hbB.mono HVB.out.size))).1
              have hld3B:=HLF.out (w5.alloc (.cells #[.int .i64 0,.int .u64 0,.string ⟨#[]⟩,.slice none 0 0,.int .i64 0] 26)) (HVB.out.trans (hbB.mono HVB.out.size))
              rw [HFN.out]))
            |(go_at_call 60
              go_must (
              first
               |(refine (HRDC.out w5 hb5).mono ?_
                 rintro r w6 hans
                 obtain ⟨hb6,lv6,us6,rfl,zf,zo,zk,za⟩:=hans
                 obtain ⟨q6,c6,rfl⟩:=zo.slice
                 have hz6:w5.heap.size≤w6.heap.size:=hb6.size
                 first
                  |(have hAA:=xA
                    clear hAA
                    have x7:=xA.below hb6 (by have:V.heap.size+1≤w5.heap.size:=hzA;omega)
                    have h7:Below Wb.heap.size Wb w6:=HVB.out.trans ((hb5.trans (hb6.mono hz5)).mono HVB.out.size)
                    have hbx:Wb.heap.size≤V.heap.size:=HVB.out.size
                    have hv7:=And.intro (HLF.out _ h7) (HYV.out _ h7).1
                    obtain ⟨X8,X9,hst8,ld8,h8,hst9,hU9⟩:=put_back HUb.out (by omega) h7 x7 rfl hbx zf (zo) (zk.mono (by have:=HVB.out.size;have:=hb5.size;omega) (Nat.le_refl _)) za (fun u hu b hb=>by have:=zk u hu b hb;have:V.heap.size+1≤w5.heap.size:=hzA;omega)
                    rw [hlj] at hst9
                    have hlr8:=HRG.out X8 h8
                    have hv8:=And.intro (HLF.out _ h8) (HYV.out _ h8).1
                    have HU9:=Lib.hid hU9
                    clear hU9 h8 h7 x7 hb6 zf zo zk za)
                  |(
                    obtain ⟨x7,hz7,hb7⟩:=one_box (w:=w6) (cs:=zeroT.cells (.slice none 0 0)) (T:=26) rfl
                    have h6:Below Wb.heap.size Wb w6:=HVB.out.trans ((hb5.trans (hb6.mono hz5)).mono HVB.out.size)
                    have h7:Below Wb.heap.size Wb (w6.alloc (.cells #[.int .i64 0,.int .u64 0,.string ⟨#[]⟩,.slice none 0 0,.int .i64 0] 26)):=h6.trans (hb7.mono h6.size)
                    have hbx:Wb.heap.size≤w6.heap.size:=h6.size
                    have hv6:=And.intro (HLF.out _ h6) (HYV.out _ h6).1
                    have hv7:=And.intro (HLF.out _ h7) (HYV.out _ h7).1
                    obtain ⟨X8,X9,hst8,ld8,h8,hst9,hU9⟩:=put_back HUb.out (by omega) h7 x7 rfl hbx zf (zo.below hb7) (zk.mono (by have:=HVB.out.size;have:=hb5.size;omega) hb7.size) za (fun u hu b hb=>by have:=zk u hu b hb;omega)
                    rw [hlj] at hst9
                    have hlr8:=HRG.out X8 h8
                    have hv8:=And.intro (HLF.out _ h8) (HYV.out _ h8).1
                    have HU9:=Lib.hid hU9
                    clear hU9 h8 h7 x7 hb6 zf zo zk za))
               |(refine (HRDC.out (w5.alloc (.cells #[.int .i64 0,.int .u64 0,.string ⟨#[]⟩,.slice none 0 0,.int .i64 0] 26)) hbB).mono ?_
                 rintro r w6 hans
                 obtain ⟨hb6,lv6,us6,rfl,zf,zo,zk,za⟩:=hans
                 obtain ⟨q6,c6,rfl⟩:=zo.slice
                 obtain ⟨xB,hzB,_⟩:=one_box (w:=w5) (cs:=zeroT.cells (.slice none 0 0)) (T:=26) rfl
                 have hzB:(w5.alloc (.cells #[.int .i64 0,.int .u64 0,.string ⟨#[]⟩,.slice none 0 0,.int .i64 0] 26)).heap.size=w5.heap.size+1:=hzB
                 have xB:Box (w5.alloc (.cells #[.int .i64 0,.int .u64 0,.string ⟨#[]⟩,.slice none 0 0,.int .i64 0] 26)) w5.heap.size (zeroT.cells (.slice none 0 0)):=xB
                 have hz6:(w5.alloc (.cells #[.int .i64 0,.int .u64 0,.string ⟨#[]⟩,.slice none 0 0,.int .i64 0] 26)).heap.size≤w6.heap.size:=hb6.size
                 have x7:=xB.below hb6 (by omega)
                 have h7:Below Wb.heap.size Wb w6:=HVB.out.trans ((hbB.trans (hb6.mono (by omega))).mono HVB.out.size)
                 have hbx:Wb.heap.size≤w5.heap.size:=by have:=HVB.out.size;omega
                 have hv7:=And.intro (HLF.out _ h7) (HYV.out _ h7).1
                 obtain ⟨X8,X9,hst8,ld8,h8,hst9,hU9⟩:=put_back HUb.out (by omega) h7 x7 rfl hbx zf (zo) (zk.mono (by have:=HVB.out.size;omega) (Nat.le_refl _)) za (fun u hu b hb=>by have:=zk u hu b hb;omega)
                 rw [hlj] at hst9
                 have hlr8:=HRG.out X8 h8
                 have hv8:=And.intro (HLF.out _ h8) (HYV.out _ h8).1
                 have HU9:=Lib.hid hU9
                 clear hU9 h8 h7 x7 hb6 zf zo zk za)))))
         all_goals
          go_wp2_with (fail)
          go_meet
          case rel=>exact ⟨_,_,_,_,rfl,rfl,rfl,ld8,hst9,hlr8,HU9.out⟩
        case rest=>
         obtain ⟨bx,X9,q6,c6,rfl,rfl,rfl,ld8,hst9,hlr8,HU9⟩:=hcut
         have HI9:=Lib.hid (items_push hlj HI.out HFI.out HIT.out)
         go_wp2
         go_roundw
         case rel=>exact ⟨j+1,_,by go_num,by simp [hlj],by omega,HI9.out,HU9.out⟩
         case measure=>simp [intOf];omega
       |error e=>
        have HIT:Hid (itemG (readF n) f ((x.list[j]?).getD zeroT)= .error e):=HIA.out
        have hee:(e !=0)=true:=by simp [HEA.out e rfl]
        go_upto_region 12 with (fail)
        go_cut [13,14,56] from 56 to 137 (fun s13 s14 s56 wx=>∃ (bx:Nat),s13= .pointer (some ⟨bx,0,none⟩)∧s14= .int .i64 e∧s56= .int .i64 j∧Hid (Below Wb.heap.size Wb wx))
        case first=>
         have hzD:V.drew.heap.size=V.heap.size:=rfl
         have hD:Below V.heap.size V V.drew:=(Below.refl _ _).drew
         have hDA:Below V.heap.size V ((V.alloc (.cells #[.int .i64 0,.int .u64 0,.string ⟨#[]⟩,.slice none 0 0,.int .i64 0] 26)).drew):=((Below.refl _ _).alloc (Nat.le_refl _) _).drew
         have hld1:=HLF.out V.drew (HVB.out.trans (hD.mono HVB.out.size))
         have hld2:=(HYV.out V.drew (HVB.out.trans (hD.mono HVB.out.size))).1
         have hld1A:=HLF.out ((V.alloc (.cells #[.int .i64 0,.int .u64 0,.string ⟨#[]⟩,.slice none 0 0,.int .i64 0] 26)).drew) (HVB.out.trans (hDA.mono HVB.out.size))
         have hld2A:=(HYV.out ((V.alloc (.cells #[.int .i64 0,.int .u64 0,.string ⟨#[]⟩,.slice none 0 0,.int .i64 0] 26)).drew) (HVB.out.trans (hDA.mono HVB.out.size))).1
         go_region_held3 (fun v=>(Instr.loadAt 50 (.pointer (some ⟨wr.heap.size,0,none⟩))).run Tryd.prog v= .ok (fagg f (.slice kp f.kinds.length kc)) v∧(Instr.loadAt 26 (.pointer (some ⟨qb,qoff+j*5,none⟩))).run Tryd.prog v= .ok (y.agg (.slice yq y.list.length yd)) v)
          (first
            |with_reducible exact hv8
            |with_reducible exact hv7
            |with_reducible exact hv6
            |with_reducible exact ⟨hld3B,hld4B⟩
            |with_reducible exact ⟨hld3,hld4⟩
            |with_reducible exact ⟨hld1A,hld2A⟩
            |with_reducible exact ⟨hld1,hld2⟩)
          ((first
            |(go_at_call 40
              go_must (
              first
               |(refine (readerOf_any f (.slice kp f.kinds.length kc) V.drew).mono ?_
                 rintro r w5 ⟨rfl,hb5'⟩
                 have hb5:Below V.heap.size V w5:=hD.trans hb5')
               |(refine (readerOf_any f (.slice kp f.kinds.length kc) ((V.alloc (.cells #[.int .i64 0,.int .u64 0,.string ⟨#[]⟩,.slice none 0 0,.int .i64 0] 26)).drew)).mono ?_
                 rintro r w5 ⟨rfl,hb5'⟩
                 obtain ⟨xA0,hzA0,_⟩:=one_box (w:=V) (cs:=zeroT.cells (.slice none 0 0)) (T:=26) rfl
                 have hzA:V.heap.size+1≤w5.heap.size:=by have:=hb5'.size;have:((V.alloc (.cells #[.int .i64 0,.int .u64 0,.string ⟨#[]⟩,.slice none 0 0,.int .i64 0] 26)).drew).heap.size=V.heap.size+1:=hzA0;omega
                 have xA1:Box ((V.alloc (.cells #[.int .i64 0,.int .u64 0,.string ⟨#[]⟩,.slice none 0 0,.int .i64 0] 26)).drew) V.heap.size (zeroT.cells (.slice none 0 0)):=xA0.heap rfl
                 have xA:Box w5 V.heap.size (zeroT.cells (.slice none 0 0)):=xA1.below hb5' (by have:((V.alloc (.cells #[.int .i64 0,.int .u64 0,.string ⟨#[]⟩,.slice none 0 0,.int .i64 0] 26)).drew).heap.size=V.heap.size+1:=hzA0;omega)
                 have hb5:Below V.heap.size V w5:=hDA.trans (hb5'.mono hDA.size)
                 clear xA0 xA1 hzA0)
              clear hb5'
              have hz5:V.heap.size≤w5.heap.size:=hb5.size
              have hld3:=HLF.out w5 (HVB.out.trans (hb5.mono HVB.out.size))
              have hld4:=(HYV.out w5 (HVB.out.trans (hb5.mono HVB.out.size))).1
              have hbB:Below V.heap.size V (w5.alloc (.cells #[.int .i64 0,.int .u64 0,.string ⟨#[]⟩,.slice none 0 0,.int .i64 0] 26)):=hb5.trans ((Below.refl _ _).alloc hz5 _)
              have hld4B:=(HYV.out (w5.alloc (.cells #[.int .i64 0,.int .u64 0,.string ⟨#[]⟩,.slice none 0 0,.int .i64 0] 26)) (HVB.out.trans (hbB.mono HVB.out.size))).1
              have hld3B:=HLF.out (w5.alloc (.cells #[.int .i64 0,.int .u64 0,.string ⟨#[]⟩,.slice none 0 0,.int .i64 0] 26)) (HVB.out.trans (hbB.mono HVB.out.size))
              rw [HFN.out]))
            |(go_at_call 60
              go_must (
              first
               |(refine (HRDC.out w5 hb5).mono ?_
                 rintro r w6 hans
                 obtain ⟨hb6,rfl⟩:=hans
                 have hz6:w5.heap.size≤w6.heap.size:=hb6.size
                 first
                  |(have hAA:=xA
                    clear hAA
                    have x7:=xA.below hb6 (by have:V.heap.size+1≤w5.heap.size:=hzA;omega)
                    have h7:Below Wb.heap.size Wb w6:=HVB.out.trans ((hb5.trans (hb6.mono hz5)).mono HVB.out.size)
                    have hbx:Wb.heap.size≤V.heap.size:=HVB.out.size
                    have hv7:=And.intro (HLF.out _ h7) (HYV.out _ h7).1
                    obtain ⟨X8,hst8,h8⟩:=put_zero x7 rfl h7 hbx
                    have hst8':(Instr.storeAt 26 (.pointer (some ⟨V.heap.size,0,none⟩)) (zeroT.agg (.slice none 0 0))).run Tryd.prog w6= .ok () X8:=hst8
                    have HV8:=Lib.hid h8
                    have hv8:=And.intro (HLF.out _ h8) (HYV.out _ h8).1
                    clear h8 h7 x7 hb6)
                  |(
                    obtain ⟨x7,hz7,hb7⟩:=one_box (w:=w6) (cs:=zeroT.cells (.slice none 0 0)) (T:=26) rfl
                    have h6:Below Wb.heap.size Wb w6:=HVB.out.trans ((hb5.trans (hb6.mono hz5)).mono HVB.out.size)
                    have h7:Below Wb.heap.size Wb (w6.alloc (.cells #[.int .i64 0,.int .u64 0,.string ⟨#[]⟩,.slice none 0 0,.int .i64 0] 26)):=h6.trans (hb7.mono h6.size)
                    have hbx:Wb.heap.size≤w6.heap.size:=h6.size
                    have hv6:=And.intro (HLF.out _ h6) (HYV.out _ h6).1
                    have hv7:=And.intro (HLF.out _ h7) (HYV.out _ h7).1
                    obtain ⟨X8,hst8,h8⟩:=put_zero x7 rfl h7 hbx
                    have hst8':(Instr.storeAt 26 (.pointer (some ⟨w6.heap.size,0,none⟩)) (zeroT.agg (.slice none 0 0))).run Tryd.prog (w6.alloc (.cells #[.int .i64 0,.int .u64 0,.string ⟨#[]⟩,.slice none 0 0,.int .i64 0] 26))= .ok () X8:=hst8
                    have HV8:=Lib.hid h8
                    have hv8:=And.intro (HLF.out _ h8) (HYV.out _ h8).1
                    clear h8 h7 x7 hb6))
               |(refine (HRDC.out (w5.alloc (.cells #[.int .i64 0,.int .u64 0,.string ⟨#[]⟩,.slice none 0 0,.int .i64 0] 26)) hbB).mono ?_
                 rintro r w6 hans
                 obtain ⟨hb6,rfl⟩:=hans
                 obtain ⟨xB,hzB,_⟩:=one_box (w:=w5) (cs:=zeroT.cells (.slice none 0 0)) (T:=26) rfl
                 have hzB:(w5.alloc (.cells #[.int .i64 0,.int .u64 0,.string ⟨#[]⟩,.slice none 0 0,.int .i64 0] 26)).heap.size=w5.heap.size+1:=hzB
                 have xB:Box (w5.alloc (.cells #[.int .i64 0,.int .u64 0,.string ⟨#[]⟩,.slice none 0 0,.int .i64 0] 26)) w5.heap.size (zeroT.cells (.slice none 0 0)):=xB
                 have hz6:(w5.alloc (.cells #[.int .i64 0,.int .u64 0,.string ⟨#[]⟩,.slice none 0 0,.int .i64 0] 26)).heap.size≤w6.heap.size:=hb6.size
                 have x7:=xB.below hb6 (by omega)
                 have h7:Below Wb.heap.size Wb w6:=HVB.out.trans ((hbB.trans (hb6.mono (by omega))).mono HVB.out.size)
                 have hbx:Wb.heap.size≤w5.heap.size:=by have:=HVB.out.size;omega
                 have hv7:=And.intro (HLF.out _ h7) (HYV.out _ h7).1
                 obtain ⟨X8,hst8,h8⟩:=put_zero x7 rfl h7 hbx
                 have hst8':(Instr.storeAt 26 (.pointer (some ⟨w5.heap.size,0,none⟩)) (zeroT.agg (.slice none 0 0))).run Tryd.prog w6= .ok () X8:=hst8
                 have HV8:=Lib.hid h8
                 have hv8:=And.intro (HLF.out _ h8) (HYV.out _ h8).1
                 clear h8 h7 x7 hb6)))))
         all_goals
          go_wp2_with (fail)
          go_meet
          case rel=>exact ⟨_,rfl,rfl,rfl,HV8.out⟩
        case rest=>
         obtain ⟨bx,rfl,rfl,rfl,HV8⟩:=hcut
         have HB8:Hid (Below w.heap.size w wc):=HBB.out.trans (HV8.out.mono (by omega))
         have hx8:=HX2.out.below (HBb'.out.trans (HV8.out.mono (by omega))) (by omega)
         have hz8:=HV8.out.size
         obtain ⟨Xe,hse,hle,_,hbe,hze,_⟩:=rec_store hx8 rfl 0 none 0 0
         have HE:Hid (R= .error (j,e)):=HRR3.out.trans (by rw [items_fault hlj HI.out HFI.out HIT.out])
         have HLE:=Lib.hid hle
         have HBE:Hid (Below w.heap.size w Xe):=HB8.out.trans (hbe.mono (by omega))
         clear hle hbe hze
         go_wp2
         exact bodyPost_ret_by (results_cell_tmp3 rfl rfl HLE.out rfl rfl) rfl (by rw [HE.out];exact ⟨HBE.out,rfl⟩)
      ·have HFN:Hid (rdFn f= .func (.func 61) #[] #[]):=if_neg h102
       have HIT:Hid (itemG (readF n) f ((x.list[j]?).getD zeroT)= .ok y):=HIR.out.trans (readF_plain n f y h102)
       have HRDC:Hid (∀ v,Below V.heap.size V v→Calls Tryd.prog 61 #[y.agg (.slice yq y.list.length yd)] v fun r w'=>ReadAns (.ok y) v r w'):=fun v h=>
        have hh:Below Wb.heap.size Wb v:=HVB.out.trans (h.mono HVB.out.size)
        reader2_any (N:=N) (B:=B) y _ v HYF.out (HYV.out v hh).2.1 (HYV.out v hh).2.2.2 (by have:=HNY.out;omega)
       clear h102
       go_upto_region 12 with (fail)
       go_cut [13,14,56] from 56 to 137 (fun s13 s14 s56 wx=>∃ (bx:Nat) (X9:World) (q6:Option Addr) (c6:Nat),s13= .pointer (some ⟨bx,0,none⟩)∧s14= .int .i64 0∧s56= .int .i64 j∧(Instr.loadAt 26 (.pointer (some ⟨bx,0,none⟩))).run Tryd.prog wx= .ok (.agg #[.int .i64 y.kind,.int .u64 y.num,.string y.text,.slice q6 y.list.length c6,.int .i64 y.elem]) wx∧(Instr.storeAt 26 (.pointer (some ⟨w3.heap.size,j*5,none⟩)) (.agg #[.int .i64 y.kind,.int .u64 y.num,.string y.text,.slice q6 y.list.length c6,.int .i64 y.elem])).run Tryd.prog wx= .ok () X9∧(Instr.loadAt 24 (.pointer (some ⟨w3.heap.size+1,1,none⟩))).run Tryd.prog wx= .ok (.slice (some ⟨w3.heap.size,0,none⟩) m m) wx∧Hid (URel w3.heap.size m X5 (ys++[y]) X9))
       case first=>
        have hzD:V.drew.heap.size=V.heap.size:=rfl
        have hD:Below V.heap.size V V.drew:=(Below.refl _ _).drew
        have hDA:Below V.heap.size V ((V.alloc (.cells #[.int .i64 0,.int .u64 0,.string ⟨#[]⟩,.slice none 0 0,.int .i64 0] 26)).drew):=((Below.refl _ _).alloc (Nat.le_refl _) _).drew
        have hld1:=HLF.out V.drew (HVB.out.trans (hD.mono HVB.out.size))
        have hld2:=(HYV.out V.drew (HVB.out.trans (hD.mono HVB.out.size))).1
        have hld1A:=HLF.out ((V.alloc (.cells #[.int .i64 0,.int .u64 0,.string ⟨#[]⟩,.slice none 0 0,.int .i64 0] 26)).drew) (HVB.out.trans (hDA.mono HVB.out.size))
        have hld2A:=(HYV.out ((V.alloc (.cells #[.int .i64 0,.int .u64 0,.string ⟨#[]⟩,.slice none 0 0,.int .i64 0] 26)).drew) (HVB.out.trans (hDA.mono HVB.out.size))).1
        go_region_held3 (fun v=>(Instr.loadAt 50 (.pointer (some ⟨wr.heap.size,0,none⟩))).run Tryd.prog v= .ok (fagg f (.slice kp f.kinds.length kc)) v∧(Instr.loadAt 26 (.pointer (some ⟨qb,qoff+j*5,none⟩))).run Tryd.prog v= .ok (y.agg (.slice yq y.list.length yd)) v)
         (first
           |with_reducible exact hv8
           |with_reducible exact hv7
           |with_reducible exact hv6
           |with_reducible exact ⟨hld3B,hld4B⟩
           |with_reducible exact ⟨hld3,hld4⟩
           |with_reducible exact ⟨hld1A,hld2A⟩
           |with_reducible exact ⟨hld1,hld2⟩)
         ((first
           |(go_at_call 40
             go_must (
             first
              |(refine (readerOf_any f (.slice kp f.kinds.length kc) V.drew).mono ?_
                rintro r w5 ⟨rfl,hb5'⟩
                have hb5:Below V.heap.size V w5:=hD.trans hb5')
              |(refine (readerOf_any f (.slice kp f.kinds.length kc) ((V.alloc (.cells #[.int .i64 0,.int .u64 0,.string ⟨#[]⟩,.slice none 0 0,.int .i64 0] 26)).drew)).mono ?_
                rintro r w5 ⟨rfl,hb5'⟩
                obtain ⟨xA0,hzA0,_⟩:=one_box (w:=V) (cs:=zeroT.cells (.slice none 0 0)) (T:=26) rfl
                have hzA:V.heap.size+1≤w5.heap.size:=by have:=hb5'.size;have:((V.alloc (.cells #[.int .i64 0,.int .u64 0,.string ⟨#[]⟩,.slice none 0 0,.int .i64 0] 26)).drew).heap.size=V.heap.size+1:=hzA0;omega
                have xA1:Box ((V.alloc (.cells #[.int .i64 0,.int .u64 0,.string ⟨#[]⟩,.slice none 0 0,.int .i64 0] 26)).drew) V.heap.size (zeroT.cells (.slice none 0 0)):=xA0.heap rfl
                have xA:Box w5 V.heap.size (zeroT.cells (.slice none 0 0)):=xA1.below hb5' (by have:((V.alloc (.cells #[.int .i64 0,.int .u64 0,.string ⟨#[]⟩,.slice none 0 0,.int .i64 0] 26)).drew).heap.size=V.heap.size+1:=hzA0;omega)
                have hb5:Below V.heap.size V w5:=hDA.trans (hb5'.mono hDA.size)
                clear xA0 xA1 hzA0)
             clear hb5'
             have hz5:V.heap.size≤w5.heap.size:=hb5.size
             have hld3:=HLF.out w5 (HVB.out.trans (hb5.mono HVB.out.size))
             have hld4:=(HYV.out w5 (HVB.out.trans (hb5.mono HVB.out.size))).1
             have hbB:Below V.heap.size V (w5.alloc (.cells #[.int .i64 0,.int .u64 0,.string ⟨#[]⟩,.slice none 0 0,.int .i64 0] 26)):=hb5.trans ((Below.refl _ _).alloc hz5 _)
             have hld4B:=(HYV.out (w5.alloc (.cells #[.int .i64 0,.int .u64 0,.string ⟨#[]⟩,.slice none 0 0,.int .i64 0] 26)) (HVB.out.trans (hbB.mono HVB.out.size))).1
             have hld3B:=HLF.out (w5.alloc (.cells #[.int .i64 0,.int .u64 0,.string ⟨#[]⟩,.slice none 0 0,.int .i64 0] 26)) (HVB.out.trans (hbB.mono HVB.out.size))
             rw [HFN.out]))
           |(go_at_call 61
             go_must (
             first
              |(refine (HRDC.out w5 hb5).mono ?_
                rintro r w6 hans
                obtain ⟨hb6,lv6,us6,rfl,zf,zo,zk,za⟩:=hans
                obtain ⟨q6,c6,rfl⟩:=zo.slice
                have hz6:w5.heap.size≤w6.heap.size:=hb6.size
                first
                 |(have hAA:=xA
                   clear hAA
                   have x7:=xA.below hb6 (by have:V.heap.size+1≤w5.heap.size:=hzA;omega)
                   have h7:Below Wb.heap.size Wb w6:=HVB.out.trans ((hb5.trans (hb6.mono hz5)).mono HVB.out.size)
                   have hbx:Wb.heap.size≤V.heap.size:=HVB.out.size
                   have hv7:=And.intro (HLF.out _ h7) (HYV.out _ h7).1
                   obtain ⟨X8,X9,hst8,ld8,h8,hst9,hU9⟩:=put_back HUb.out (by omega) h7 x7 rfl hbx zf (zo) (zk.mono (by have:=HVB.out.size;have:=hb5.size;omega) (Nat.le_refl _)) za (fun u hu b hb=>by have:=zk u hu b hb;have:V.heap.size+1≤w5.heap.size:=hzA;omega)
                   rw [hlj] at hst9
                   have hlr8:=HRG.out X8 h8
                   have hv8:=And.intro (HLF.out _ h8) (HYV.out _ h8).1
                   have HU9:=Lib.hid hU9
                   clear hU9 h8 h7 x7 hb6 zf zo zk za)
                 |(
                   obtain ⟨x7,hz7,hb7⟩:=one_box (w:=w6) (cs:=zeroT.cells (.slice none 0 0)) (T:=26) rfl
                   have h6:Below Wb.heap.size Wb w6:=HVB.out.trans ((hb5.trans (hb6.mono hz5)).mono HVB.out.size)
                   have h7:Below Wb.heap.size Wb (w6.alloc (.cells #[.int .i64 0,.int .u64 0,.string ⟨#[]⟩,.slice none 0 0,.int .i64 0] 26)):=h6.trans (hb7.mono h6.size)
                   have hbx:Wb.heap.size≤w6.heap.size:=h6.size
                   have hv6:=And.intro (HLF.out _ h6) (HYV.out _ h6).1
                   have hv7:=And.intro (HLF.out _ h7) (HYV.out _ h7).1
                   obtain ⟨X8,X9,hst8,ld8,h8,hst9,hU9⟩:=put_back HUb.out (by omega) h7 x7 rfl hbx zf (zo.below hb7) (zk.mono (by have:=HVB.out.size;have:=hb5.size;omega) hb7.size) za (fun u hu b hb=>by have:=zk u hu b hb;omega)
                   rw [hlj] at hst9
                   have hlr8:=HRG.out X8 h8
                   have hv8:=And.intro (HLF.out _ h8) (HYV.out _ h8).1
                   have HU9:=Lib.hid hU9
                   clear hU9 h8 h7 x7 hb6 zf zo zk za))
              |(refine (HRDC.out (w5.alloc (.cells #[.int .i64 0,.int .u64 0,.string ⟨#[]⟩,.slice none 0 0,.int .i64 0] 26)) hbB).mono ?_
                rintro r w6 hans
                obtain ⟨hb6,lv6,us6,rfl,zf,zo,zk,za⟩:=hans
                obtain ⟨q6,c6,rfl⟩:=zo.slice
                obtain ⟨xB,hzB,_⟩:=one_box (w:=w5) (cs:=zeroT.cells (.slice none 0 0)) (T:=26) rfl
                have hzB:(w5.alloc (.cells #[.int .i64 0,.int .u64 0,.string ⟨#[]⟩,.slice none 0 0,.int .i64 0] 26)).heap.size=w5.heap.size+1:=hzB
                have xB:Box (w5.alloc (.cells #[.int .i64 0,.int .u64 0,.string ⟨#[]⟩,.slice none 0 0,.int .i64 0] 26)) w5.heap.size (zeroT.cells (.slice none 0 0)):=xB
                have hz6:(w5.alloc (.cells #[.int .i64 0,.int .u64 0,.string ⟨#[]⟩,.slice none 0 0,.int .i64 0] 26)).heap.size≤w6.heap.size:=hb6.size
                have x7:=xB.below hb6 (by omega)
                have h7:Below Wb.heap.size Wb w6:=HVB.out.trans ((hbB.trans (hb6.mono (by omega))).mono HVB.out.size)
                have hbx:Wb.heap.size≤w5.heap.size:=by have:=HVB.out.size;omega
                have hv7:=And.intro (HLF.out _ h7) (HYV.out _ h7).1
                obtain ⟨X8,X9,hst8,ld8,h8,hst9,hU9⟩:=put_back HUb.out (by omega) h7 x7 rfl hbx zf (zo) (zk.mono (by have:=HVB.out.size;omega) (Nat.le_refl _)) za (fun u hu b hb=>by have:=zk u hu b hb;omega)
                rw [hlj] at hst9
                have hlr8:=HRG.out X8 h8
                have hv8:=And.intro (HLF.out _ h8) (HYV.out _ h8).1
                have HU9:=Lib.hid hU9
                clear hU9 h8 h7 x7 hb6 zf zo zk za)))))
        all_goals
         go_wp2_with (fail)
         go_meet
         case rel=>exact ⟨_,_,_,_,rfl,rfl,rfl,ld8,hst9,hlr8,HU9.out⟩
       case rest=>
        obtain ⟨bx,X9,q6,c6,rfl,rfl,rfl,ld8,hst9,hlr8,HU9⟩:=hcut
        have HI9:=Lib.hid (items_push hlj HI.out HFI.out HIT.out)
        go_wp2
        go_roundw
        case rel=>exact ⟨j+1,_,by go_num,by simp [hlj],by omega,HI9.out,HU9.out⟩
        case measure=>simp [intOf];omega
   ·obtain rfl:j=m:=by omega
    have hit:itemsG (readF n) fs x.list 0= .ok ys:=itemsG_of (by rw [hlj];exact Hm.out.symm) HI.out
    have HE:Hid (R= .ok (k,ys)):=HRR3.out.trans (by rw [hit])
    have hun:unpackF n t= .ok (k,ys):=HR.out.trans HE.out
    have hnl:nodesL ys≤1000000000000:=by have:=unpack_nodes (mildF n) hun;omega
    obtain ⟨us,ho,hbk,hap⟩:=HU.out.all hlj (by omega) hnl
    have hwr:Below w3.heap.size w3 wr:=HB5.out.trans HU.out.below
    have hrl:=pload_rec (HU.out.box HR5.out (by omega) (by omega))
    have hzr:w3.heap.size+2≤wr.heap.size:=by have:=HU.out.size;omega
    obtain ⟨Xe,hse,hle,_,hbe,hze,hsame⟩:=rec_store (HX2.out.below hwr (by omega)) rfl k (some ⟨w3.heap.size,0,none⟩) j j
    have HLE:=Lib.hid hle
    have HBE:Hid (Below w.heap.size w Xe):=(HBW.out.trans (hwr.mono (by omega))).trans (hbe.mono (by omega))
    have HQ:Hid (OL Xe LV (.slice (some ⟨w3.heap.size,0,none⟩) j j) ys us∧Blk w.heap.size Xe.heap.size us∧ApartV us):=⟨ho.heap (by omega) fun u hu b hb=>hsame b (by have:=hbk u hu b hb;omega),by rw [hze];exact hbk.mono (by omega) (Nat.le_refl _),hap⟩
    clear hit hun hnl ho hbk hap hwr hle hbe hze hsame
    go_wp2
    exact bodyPost_ret_by (results_cell_tmp3 rfl rfl HLE.out rfl rfl) rfl (by rw [HE.out];exact ⟨HBE.out,_,us,rfl,HQ.out⟩)
end Go.Proofs.YtfoiaiblggapeaaDoor.Va
