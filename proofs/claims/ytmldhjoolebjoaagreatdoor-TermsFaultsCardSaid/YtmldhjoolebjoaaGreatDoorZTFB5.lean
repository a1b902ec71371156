/-
  The texts P6 of this claim, one behind the other.
-/
import Derived.Test.YtmldhjoolebjoaaGreatDoorZTFB4
import Derived.Test.YtmldhjoolebjoaaGreatDoorZTFA1
import Derived.Deep.CutRange
import Derived.Deep.CutBlock
set_option maxRecDepth 100000
namespace Go.Proofs.YtmldhjoolebjoaaGreatDoor.Va
open Go Go.RowKit Nu Uc Fd Go.Proofs.YtmldhjoolebjoaaGreatDoor.Nm
attribute [-go_sem] Go.Instr.loadAt Go.Instr.storeAt
def R9 (n:Nat):Prop:=∀ (B N:Nat) (t:VT) (lv:Value) (w:World),Env w→t.bD→bR B w N lv t.list→B≤w.heap.size→Zv (kindOf t)≤n→(nodes t+13)*2^n≤800000000→
    Calls Tryz.prog 84 #[t.agg lv] w fun r w'=>abD (oM n t) w r w'
theorem bJ {v:World} {b:Nat} {cs:List Value} (x:eF v b cs) (hl:cs.length=2) (k:Int) (a:Option Addr) (n c:Nat):∃ X,(Instr.storeAt 91 (.pointer (some ⟨b,0,none⟩)) (.agg #[.int .i64 k,.slice a n c])).run Tryz.prog v= .ok () X∧(loadVar 91 ⟨b,0,none⟩).run Tryz.prog X= .ok (.agg #[.int .i64 k,.slice a n c]) X∧eF X b [.int .i64 k,.slice a n c]∧Below b v X∧X.heap.size=v.heap.size∧∀ j,j≠b→X.heap[j]? =v.heap[j]? :=by
 have y:=x.all (vs:=[.int .i64 k,.slice a n c]) (by rw [hl];rfl)
 refine ⟨v.setCells b 0 [.int .i64 k,.slice a n c],Go.run_storeAt_mid v b 0 91 [.int .i64 k,.slice a n c].toArray (x.part (o:=0) (n:=2) (by omega)) (by kernel_rfl) (by simp [Value.oneCell']),?_,y,au (Nat.le_refl _) _ _,aC ..,fun j hj=>aA hj _ _⟩
 exact Go.run_loadVar_mid _ b 0 91 [.int .i64 k,.slice a n c] _ y.1 Tryz.underlying91 rfl (by kernel_rfl)
theorem Ni {v:World} {b:Nat} {cs:List Value} (x:eF v b cs) (hl:cs.length=9) (f:FT) (a:Option Addr) (n c:Nat):∃ X,(Instr.storeAt 121 (.pointer (some ⟨b,0,none⟩)) (.agg #[.string ⟨f.name.toArray⟩,.int .i64 f.type,.slice a n c,.bool f.must,.int .i64 f.dk,.int .u64 f.dn,.string ⟨f.dt.toArray⟩,.slice none 0 0,.int .i64 0])).run Tryz.prog v= .ok () X∧eF X b (fA f (.slice a n c))∧Below b v X∧X.heap.size=v.heap.size:=by
 have y:=x.all (vs:=fA f (.slice a n c)) (by rw [hl];rfl)
 exact ⟨v.setCells b 0 (fA f (.slice a n c)),Go.run_storeAt_mid v b 0 121 (fA f (.slice a n c)).toArray (x.part (o:=0) (n:=9) (by omega)) (by kernel_rfl) (by simp [fA,Value.oneCell']),y,au (Nat.le_refl _) _ _,aC ..⟩
noncomputable def EU:TypeInfo:=match Tryz.prog.info? 25 with|some i=>i|none=>default
theorem aaY:Tryz.prog.info? 25=some EU:=by kernel_rfl
theorem Nj:EU.zero=some (.agg #[.int .i64 0,.int .u64 0,.string ⟨#[]⟩,.slice none 0 0,.int .i64 0]):=by kernel_rfl
theorem Nk:EU.size=5:=by kernel_rfl
theorem JH:EU.bytes=64:=by kernel_rfl
theorem JI (w:World) (n:Nat) (hn:n≤100000):∃ C:Array Value,C.size=n*5∧(Instr.makeSlice 23 (.int .i64 n) (.int .i64 n)).run Tryz.prog w= .ok (.slice (some ⟨w.heap.size,0,none⟩) n n) (w.alloc (.cells C 25)):=by
 have:=run_make (P:=Tryz.prog) w 23 25 EU _ Tryz.underlying23 aaY Nj .i64 .i64 n n (by omega) (Int.le_refl _) (by rw [JH];omega) (by omega)
 rw [Nk] at this
 have e:((n:Int).toNat)=n:=by omega
 rw [e] at this
 exact ⟨_,size_madeCells _ _,this⟩
theorem aR {P:Program} {fn:Func} {p q q':Tmp} {ty:TypeId} {tmps:Array Value} {w:World} {g:Nat} {v u u':Value} (h:fn.results= #[.cell p ty,.tmp q,.tmp q']) (hp:tmps.getD p undef= .pointer (some ⟨g,0,none⟩)) (hld:(loadVar ty ⟨g,0,none⟩).run P w= .ok v w) (hq:tmps.getD q undef=u) (hq':tmps.getD q' undef=u'):
 (results fn tmps).run P w= .ok (.tuple #[v,u,u']) w:=by
 have hp':tmps[p]?.getD undef= .pointer (some ⟨g,0,none⟩):=by simpa using hp
 have e1:tmps[q]?.getD undef=u:=by simpa using hq
 have e2:tmps[q']?.getD undef=u':=by simpa using hq'
 simp [results,h,hp',asAddr,hld,e1,e2]
theorem qJ {g m bx:Nat} {X5 Wb V':World} {ys:List VT} {z:VT} {q6:Option Addr} {c6:Nat} {us cs:List Value} (HU:pz g m X5 ys Wb) (hl:ys.length<m) (hW:Below Wb.heap.size Wb V') (x:eF V' bx cs) (hc:cs.length=5) (hbx:Wb.heap.size≤bx) (zf:z.bD) (zo:OL V' LV (.slice q6 z.list.length c6) z.list us) (zk:ku Wb.heap.size V'.heap.size us) (za:aM us) (zn:∀ u∈us,∀ b,u.ownBlock=some b→b≠bx):
 ∃ X8 X9,(Instr.storeAt 25 (.pointer (some ⟨bx,0,none⟩)) (.agg #[.int .i64 z.kind,.int .u64 z.num,.string z.text,.slice q6 z.list.length c6,.int .i64 z.elem])).run Tryz.prog V'= .ok () X8∧(Instr.loadAt 25 (.pointer (some ⟨bx,0,none⟩))).run Tryz.prog X8= .ok (.agg #[.int .i64 z.kind,.int .u64 z.num,.string z.text,.slice q6 z.list.length c6,.int .i64 z.elem]) X8∧Below Wb.heap.size Wb X8∧
   (Instr.storeAt 25 (.pointer (some ⟨g,ys.length*5,none⟩)) (.agg #[.int .i64 z.kind,.int .u64 z.num,.string z.text,.slice q6 z.list.length c6,.int .i64 z.elem])).run Tryz.prog X8= .ok () X9∧pz g m X5 (ys++[z]) X9:=by
 have hst:=aD (t:=z) (a:=q6) (n:=z.list.length) (c:=c6) (x.part (o:=0) (n:=5) (by omega))
 have y:=x.all (vs:=z.cells (.slice q6 z.list.length c6)) (by rw [hc];rfl)
 have hz:(V'.setCells bx 0 (z.cells (.slice q6 z.list.length c6))).heap.size=V'.heap.size:=aC ..
 have h8:Below Wb.heap.size Wb (V'.setCells bx 0 (z.cells (.slice q6 z.list.length c6))):=hW.trans (au hbx _ _)
 obtain ⟨hth,hstep⟩:=HU.step (w2:=V'.setCells bx 0 (z.cells (.slice q6 z.list.length c6))) (y:=z) (lv:= .slice q6 z.list.length c6) hl h8 zf (zo.heap (by rw [hz];exact Nat.le_refl _) fun u hu b hb=>aA (zn u hu b hb) _ _) (by rw [hz];exact zk) za
 exact ⟨_,_,hst,ag y.1,h8,aD hth,hstep⟩
theorem EW {bx:Nat} {Wb V':World} {cs:List Value} (x:eF V' bx cs) (hc:cs.length=5) (hW:Below Wb.heap.size Wb V') (hbx:Wb.heap.size≤bx):
 ∃ X8,(Instr.storeAt 25 (.pointer (some ⟨bx,0,none⟩)) (.agg #[.int .i64 0,.int .u64 0,.string ⟨#[]⟩,.slice none 0 0,.int .i64 0])).run Tryz.prog V'= .ok () X8∧Below Wb.heap.size Wb X8:=
 ⟨_,aD (t:=ah) (a:=none) (n:=0) (c:=0) (x.part (o:=0) (n:=5) (by omega)),hW.trans (au hbx _ _)⟩
set_option maxHeartbeats 8000000 in
theorem Vb {n:Nat} (hRC:Hr n):R9 n:=by
 intro B N t lv w hE hft hl hB Fx hnd
 have aaU:nodes t≤800000000:=by have:=Nat.le_mul_of_pos_right (nodes t+13) (Nat.two_pow_pos n);omega
 obtain ⟨p,c,rfl⟩:=hl.slice
 obtain ⟨W1,hW1⟩:∃ W1,(w.alloc (.cells #[.int .i64 t.kind,.int .u64 t.num,.string t.text,.slice p t.list.length c,.int .i64 t.elem] 25)).alloc (.cells #[.int .i64 0,.slice none 0 0] 91)=W1:=⟨_,rfl⟩
 obtain ⟨x1,x2,hz1,hb1⟩:=bK (cs:=t.cells (.slice p t.list.length c)) (ds:=[.int .i64 0,.slice none 0 0]) hW1
 have l0:=ag x1.1
 have hE1:=hE.below hb1
 obtain ⟨⟨ts,hsp⟩,_⟩:=hE1
 have U7:=ajd (MX (N:=N) (B:=B) (d:=t) (v:=t.agg (.slice p t.list.length c)) (w:=W1) ⟨hft,_,rfl,hl.below (hb1.mono hB)⟩ (by omega) hsp)
 have X1:=ajd x1
 have X2:=ajd x2
 have HB1:=ajd hb1
 have AJ:=ajd (hE.below hb1)
 have HL:=ajd hl
 have HRC:=ajd hRC
 have o7:=ajd hnd
 obtain ⟨R,hR⟩:∃ R,oM n t=R:=⟨_,rfl⟩
 have HR:=ajd hR
 obtain ⟨o,ho⟩:∃ o,kindOf t=o:=⟨_,rfl⟩
 have HO:=ajd ho
 rw [hR]
 rw [ho] at U7 Fx
 clear hR ho hl x1 x2 hb1 hE hRC hsp hnd
 go_enter Tryz.func84,Tryz.ntmps84
 go_wp2_with (fail)
 clear hW1 l0
 refine U7.out.mono ?_
 rintro r w2 ⟨rfl,hb2⟩
 have xI:=ajd (X1.out.below hb2 (by omega))
 have Au:=ajd (X2.out.below hb2 (by omega))
 have HB2:=ajd (HB1.out.trans (hb2.mono (by omega)))
 have HE2:=ajd (AJ.out.below hb2)
 have z2:W1.heap.size≤w2.heap.size:=hb2.size
 have rE:=xE (Km o) w2
 unfold gH at rE
 unfold lN
 obtain ⟨kn,hkn⟩:∃ kn,Km o=kn:=⟨_,rfl⟩
 have YQ:=ajd hkn
 rw [hkn] at rE ⊢
 have JF:=ajd rE
 obtain ⟨q,hq⟩:∃ q,o.isSome=q:=⟨_,rfl⟩
 rw [hq]
 have HQS:=ajd hq
 clear hb2 rE hq hkn X1 X2 HB1 AJ U7
 go_wp2_with (fail)
 refine JF.out.mono ?_
 rintro r w3 ⟨vf,rfl,hfo,hb3⟩
 have X1c:=ajd (xI.out.below hb3 (by omega))
 have EX:=ajd (Au.out.below hb3 (by omega))
 have EF:=ajd (HB2.out.trans (hb3.mono (by omega)))
 have HE3:=ajd (HE2.out.below hb3)
 have z3:w2.heap.size≤w3.heap.size:=hb3.size
 clear hb3 xI Au HB2 HE2 JF
 obtain ⟨of,hof⟩:∃ of,aN kn=of:=⟨_,rfl⟩
 have BP:=ajd hof
 rw [hof] at hfo ⊢
 clear hof
 cases of with
 |none=>
  rcases hfo with ⟨_,rfl⟩|⟨h,_⟩
  ·have HE:Hid (R= .error (0,70)):=by
    show _=_
    rw [←HR.out]
    refine xZ ?_
    rw [HO.out]
    cases o with
    |none=>rfl
    |some k=>have h1:=YQ.out;have h2:=BP.out;rw [←h1] at h2;exact h2
   obtain ⟨Xe,hse,hle,_,hbe,zD,_⟩:=bJ EX.out rfl 0 none 0 0
   have AP:=ajd hle
   have AQ:Hid (Below w.heap.size w Xe):=EF.out.trans (hbe.mono (by omega))
   clear hle hbe zD
   go_wp2
   exact bodyPost_ret_by (aR rfl rfl AP.out rfl rfl) rfl (by rw [HE.out];exact ⟨AQ.out,rfl⟩)
  ·exact absurd rfl h
 |some fs=>
  obtain ⟨k,rfl⟩:∃ k,o=some k:=by
   cases o with
   |none=>
    have h1:=YQ.out;have h2:=BP.out;rw [←h1] at h2;have h3:aN (Km none)=none:=by decide
    rw [h3] at h2;cases h2
   |some k=>exact ⟨k,rfl⟩
  obtain rfl:k=kn:=YQ.out
  obtain ⟨d,x,Oh⟩:=CW HO.out
  have hRR:=CY (rd:=ai n) HO.out BP.out Oh
  have hRR:R=_:=HR.out.symm.trans hRR
  have HRR:=ajd hRR
  have hfl:=fP BP.out
  have hL:=HL.out
  rw [Oh] at hL
  have hX1:=X1c.out
  rw [Oh] at hX1
  cases N with
  |zero=>exact hL.elim
  |succ N=>
  rcases hL with ⟨h0,_⟩|⟨b,off,c',hp,jy,_,hel⟩
  ·cases h0
  cases hp
  obtain ⟨xf,xlv,Nc,xl⟩:=hel 1 x rfl
  obtain ⟨q1,d1,rfl⟩:=xl.slice
  have JJ:=Nc.below EF.out (by omega)
  have e1:off+1*5=off+5:=by omega
  rw [e1] at JJ
  have l1:=aF (hX1.cell (j:=3) rfl)
  have l2:=aG JJ.kind
  have l3:=aF JJ.list
  have U8:=ajd xl
  have hFO:=hfo
  obtain ⟨fp,fc,rfl,hu⟩:=hFO.view
  have Cg:=ajd hfo
  obtain ⟨m,hm⟩:∃ m,fs.length=m:=⟨_,rfl⟩
  have Hm:=ajd hm
  have hnx:nodes x≤nodes t:=by
   have h1:nodes x≤aj t.list:=gY (by rw [Oh];simp)
   have:=aX t
   omega
  have HNX:=ajd hnx
  have hgl:x.list.length≤900000000:=by
   have h1:=fZ x.list
   have:=aX x
   omega
  obtain ⟨gn,hgn⟩:∃ gn,x.list.length=gn:=⟨_,rfl⟩
  have YR:=ajd hgn
  simp only [Option.getD_some,Option.isSome_some] at Cg ⊢
  rw [hm] at Cg hfl ⊢
  rw [hgn] at l3 U8 hgl
  clear hfo hFO hu hm hgn hel hX1 Nc JJ xl hRR Oh hnx
  by_cases JK:x.kind=21
  case neg=>
   have hne:(x.kind !=21)=true:=by simp [JK]
   have HE:Hid (R= .error (0,70)):=HRR.out.trans (if_pos JK)
   obtain ⟨Xe,hse,hle,_,hbe,zD,_⟩:=bJ EX.out rfl 0 none 0 0
   have AP:=ajd hle
   have AQ:Hid (Below w.heap.size w Xe):=EF.out.trans (hbe.mono (by omega))
   clear hle hbe zD
   go_wp2
   exact bodyPost_ret_by (aR rfl rfl AP.out rfl rfl) rfl (by rw [HE.out];exact ⟨AQ.out,rfl⟩)
  have hne:(x.kind !=21)=false:=by simp [JK]
  have YS:=ajd (HRR.out.trans (if_neg (by simp [JK])))
  by_cases hlen:m<gn
  ·have HE:Hid (R= .error (m,71)):=by rw [←Hm.out,←YR.out] at*;exact YS.out.trans (if_pos hlen)
   have hlt:decide ((gn:Int)>(m:Int))=true:=by simp;omega
   obtain ⟨Xe,hse,hle,_,hbe,zD,_⟩:=bJ EX.out rfl 0 none 0 0
   have AP:=ajd hle
   have AQ:Hid (Below w.heap.size w Xe):=EF.out.trans (hbe.mono (by omega))
   clear hle hbe zD
   go_wp2
   exact bodyPost_ret_by (aR rfl rfl AP.out rfl rfl) rfl (by rw [HE.out];exact ⟨AQ.out,rfl⟩)
  have hlt:decide ((gn:Int)>(m:Int))=false:=by simp;omega
  have Nl:=ajd (YS.out.trans (if_neg (by have:=Hm.out;have:=YR.out;omega)))
  obtain ⟨C,hC,hmk⟩:=JI w3 m (by omega)
  obtain ⟨x3,x4,Qs,hb4⟩:=bK (w:=w3) (cs:=C.toList) (ds:=[.int .i64 0,.slice none 0 0]) (T:=25) (T':=91) rfl
  rw [Array.toArray_toList] at x3 x4 Qs hb4
  obtain ⟨W4,hW4⟩:∃ W4,(w3.alloc (.cells C 25)).alloc (.cells #[.int .i64 0,.slice none 0 0] 91)=W4:=⟨_,rfl⟩
  have afm:(w3.alloc (.cells C 25)).alloc (.cells [Value.int .i64 0,.slice none 0 0].toArray 91)=W4:=hW4
  rw [afm] at x3 x4 Qs hb4
  obtain ⟨X5,hs5,hl5,bx5,hb5,oH,ab4⟩:=bJ x4 rfl k (some ⟨w3.heap.size,0,none⟩) m m
  have UG:X5.there w3.heap.size 0 (m*5):=dQ (by have:=x3.2;rw [Array.length_toList,hC] at this;exact this) (ab4 _ (by omega))
  have HU0:Hid (pz w3.heap.size m X5 [] X5):=pz.start (by omega) UG
  have Sa:Hid (Below w3.heap.size w3 X5):=hb4.trans (hb5.mono (by omega))
  have HR5:=ajd bx5
  have z5:X5.heap.size=w3.heap.size+2:=by omega
  clear x3 x4 Qs hb4 afm hl5 bx5 hb5 oH ab4 UG hC
  go_wp2
  go_loopw [56] (fun iv wr=>∃ (j:Nat) (ys:List VT),iv= .int .i64 j∧ys.length=j∧j≤m∧Hid (∀ (k:Nat) (f:FT) (y:VT),fs[k]? =some f→ys[k]? =some y→bA (ai n) f ((x.list[k]?).getD ah)= .ok y)∧Hid (pz w3.heap.size m X5 ys wr)) (fun iv _=>m-(intOf iv).toNat)
  case atStart=>exact ⟨0,[],rfl,rfl,Nat.zero_le _,(by show ∀ (k:Nat) (f:FT) (y:VT),fs[k]? =some f→[][k]? =some y→_;intro k f y _ h;simp at h),HU0.out⟩
  case round=>
   obtain ⟨j,ys,rfl,hlj,hj,HI,HU⟩:=hrel
   by_cases EY:j<m
   ·obtain ⟨f,hf⟩:∃ f,fs[j]? =some f:=⟨_,List.getElem?_eq_getElem (by rw [Hm.out];exact EY)⟩
    have xJ:=ajd hf
    have HWR:Hid (Below w3.heap.size w3 wr):=Sa.out.trans HU.out.below
    have TG:w3.heap.size+2≤wr.heap.size:=by have:=HU.out.size;omega
    obtain ⟨q2,d2,e2,hv⟩:=(Cg.out.below HWR.out).view
    obtain ⟨fb,jX,kv,rfl,ZA,⟨a0,a1,a2,a3,a4,a5,a6,a7,a8⟩,hkv⟩:=hv j f hf
    simp only [Value.slice.injEq] at e2
    obtain ⟨rfl, -, -⟩:=e2
    obtain ⟨kp,kc,rfl,Vd⟩:=hkv.view
    have hcf:Cells wr fb (jX+j*9) (fA f (.slice kp f.kinds.length kc)):=fun j u hu=>by
     match j,hu with
     |0,hu=>cases hu;exact a0
     |1,hu=>cases hu;exact a1
     |2,hu=>cases hu;exact a2
     |3,hu=>cases hu;exact a3
     |4,hu=>cases hu;exact a4
     |5,hu=>cases hu;exact a5
     |6,hu=>cases hu;exact a6
     |7,hu=>cases hu;exact a7
     |8,hu=>cases hu;exact a8
     |j+9,hu=>simp [fA] at hu
    have lf:=eY hcf
    have hj0:(0:Int)≤(j:Int):=by omega
    have hj1:(j:Int)<(m:Int):=by omega
    have hkl:f.kinds.length≤1000:=by
     obtain ⟨e,he,_,h2⟩:=eU BP.out
     have:=(xV e he).2 f (by rw [h2];exact List.mem_of_getElem? hf)
     omega
    have Nf:=vN BP.out (List.mem_of_getElem? hf)
    have hdf:f.dflt.bD:=⟨by show _≤f.dk;omega,by show f.dk≤_;omega,Nf.1,Nf.2.1,by show _≤(0:Int);omega,by show (0:Int)≤_;omega,by show f.dt.toArray.size≤_;simp [maxLen];omega⟩
    obtain ⟨Wa,hWa⟩:∃ Wa,wr.alloc (.cells #[.string ⟨#[]⟩,.int .i64 0,.slice none 0 0,.bool false,.int .i64 0,.int .u64 0,.string ⟨#[]⟩,.slice none 0 0,.int .i64 0] 121)=Wa:=⟨_,rfl⟩
    obtain ⟨xa,hza,hba⟩:=aH (cs:=[.string ⟨#[]⟩,.int .i64 0,.slice none 0 0,.bool false,.int .i64 0,.int .u64 0,.string ⟨#[]⟩,.slice none 0 0,.int .i64 0]) hWa
    obtain ⟨Wb,hsf,xb,hbb,hzb⟩:=Ni xa rfl f kp f.kinds.length kc
    have hab:Below wr.heap.size wr Wb:=hba.trans hbb
    have ZB:=ajd (HU.out.keep hab)
    have YT:Hid (Below w3.heap.size w3 Wb):=HWR.out.trans (hab.mono (by omega))
    have HBb:=EF.out.trans (YT.out.mono (by omega))
    have NL:=ajd HBb
    have HXb:=EX.out.below YT.out (by omega)
    have wI:Wb.heap.size=wr.heap.size+1:=by omega
    have gL:Hid (∀ v,Below Wb.heap.size Wb v→(Instr.loadAt 121 (.pointer (some ⟨wr.heap.size,0,none⟩))).run Tryz.prog v= .ok (jJ f (.slice kp f.kinds.length kc)) v):=fun v h=>eY (xb.below h (by omega)).1
    have ZC:Hid (∀ v,Below Wb.heap.size Wb v→(Instr.loadAt 23 (.pointer (some ⟨w3.heap.size+1,1,none⟩))).run Tryz.prog v= .ok (.slice (some ⟨w3.heap.size,0,none⟩) m m) v):=fun v h=>aF (((ZB.out.box HR5.out (by omega) (by omega)).below h (by omega)).cell (j:=1) rfl)
    have hlr0:=ZC.out Wb (Below.refl _ _)
    have aa1:=aG (xb.cell (j:=1) rfl)
    have aa2:=rD (xb.cell (j:=3) rfl)
    have hld0:(Instr.loadAt 25 (.pointer (some ⟨wr.heap.size,4,none⟩))).run Tryz.prog Wb= .ok (.agg #[.int .i64 f.dk,.int .u64 f.dn,.string ⟨f.dt.toArray⟩,.slice none 0 0,.int .i64 0]) Wb:=ag (t:=f.dflt) (lv:= .slice none 0 0) (o:=4) fun i u hu=>by
     have:=xb.1 (4+i) u (by
      match i,hu with
      |0,hu=>exact hu
      |1,hu=>exact hu
      |2,hu=>exact hu
      |3,hu=>exact hu
      |4,hu=>exact hu
      |i+5,hu=>simp [VT.cells] at hu)
     rwa [Nat.zero_add] at this
    have HKS:=ajd (hkv.below hab)
    have HKL:=ajd hkl
    clear hf hv hkv Vd a0 a1 a2 a3 a4 a5 a6 a7 a8 hcf xa hba xb hbb hab hkl
    by_cases hjg:j<gn
    case neg=>
     have hge:decide ((j:Int)≥(gn:Int))=true:=by simp;omega
     have hy0:((x.list[j]?).getD ah).kind=0:=by rw [List.getElem?_eq_none (by have:=YR.out;omega)];rfl
     by_cases hm:f.must=true
     ·have hlm:=hm▸aa2
      obtain ⟨Xe,hse,hle,_,hbe,zD,_⟩:=bJ HXb rfl 0 none 0 0
      have HE:Hid (R= .error (j,72)):=Nl.out.trans (by rw [lU hlj HI.out xJ.out (wU hy0 hm)])
      have AP:=ajd hle
      have AQ:Hid (Below w.heap.size w Xe):=HBb.trans (hbe.mono (by omega))
      clear hle hbe zD
      go_wp2
      exact bodyPost_ret_by (aR rfl rfl AP.out rfl rfl) rfl (by rw [HE.out];exact ⟨AQ.out,rfl⟩)
     ·have hm:f.must=false:=by simpa using hm
      have hlm:=hm▸aa2
      have HIT:Hid (bA (ai n) f ((x.list[j]?).getD ah)= .ok f.dflt):=wT hy0 hm
      obtain ⟨hth,hstep⟩:=ZB.out.step (w2:=Wb) (y:=f.dflt) (lv:= .slice none 0 0) (by omega) (Below.refl _ _) hdf (OL.nil _ _) (ku.none _ _) (aM.one _)
      have hst:=aD (t:=f.dflt) (a:=none) (n:=0) (c:=0) hth
      rw [hlj] at hst hstep
      obtain ⟨X7,hX7⟩:∃ X7,Wb.setCells w3.heap.size (j*5) (f.dflt.cells (.slice none 0 0))=X7:=⟨_,rfl⟩
      rw [hX7] at hst hstep
      replace hst:(Instr.storeAt 25 (.pointer (some ⟨w3.heap.size,j*5,none⟩)) (.agg #[.int .i64 f.dk,.int .u64 f.dn,.string ⟨f.dt.toArray⟩,.slice none 0 0,.int .i64 0])).run Tryz.prog Wb= .ok () X7:=hst
      have HU7:=ajd hstep
      have HI7:=ajd (kW hlj HI.out xJ.out HIT.out)
      clear hth hstep hX7
      go_wp2
      go_roundw
      case rel=>exact ⟨j+1,_,by go_num,by simp [hlj],by omega,HI7.out,HU7.out⟩
      case measure=>simp [intOf];omega
    have hge:decide ((j:Int)≥(gn:Int))=false:=by simp;omega
    obtain ⟨y,hy⟩:∃ y,x.list[j]? =some y:=⟨_,List.getElem?_eq_getElem (by have:=YR.out;omega)⟩
    have hyd:(x.list[j]?).getD ah=y:=by rw [hy];rfl
    have hLX:=U8.out
    cases N with
    |zero=>exact hLX.elim
    |succ N=>
    rcases hLX with ⟨h0,_⟩|⟨qb,Ve,c2,hp2,hqB,_,YU⟩
    ·rw [h0] at hy;simp at hy
    rw [YR.out] at hp2
    cases hp2
    obtain ⟨yf,ylv,yat,yl⟩:=YU j y hy
    obtain ⟨yq,yd,rfl⟩:=yl.slice
    have hj2:(j:Int)<(gn:Int):=by omega
    have hwb:Below B w Wb:=NL.out.mono hB
    have hwz:=NL.out.size
    have lk:=aG (yat.below hwb hqB).kind
    have oD:Hid (∀ v,Below Wb.heap.size Wb v→(Instr.loadAt 25 (.pointer (some ⟨qb,Ve+j*5,none⟩))).run Tryz.prog v= .ok (y.agg (.slice yq y.list.length yd)) v∧bR B v N (.slice yq y.list.length yd) y.list∧Env v∧B≤v.heap.size):=fun v h=>
     ⟨ag (dW (yat.below (hwb.trans (h.mono (by omega))) hqB)),yl.below (hwb.trans (h.mono (by omega))),(HE3.out.below YT.out).below h,by have:=h.size;omega⟩
    have HYF:=ajd yf
    have hny:nodes y≤nodes t:=by
     have h1:nodes y≤aj x.list:=gY (List.mem_of_getElem? hy)
     have:=aX x
     have:=HNX.out
     omega
    have HNY:=ajd hny
    have HYD:=ajd hyd
    clear YU hy yat yl hwb yf hny hyd
    by_cases hk:y.kind=0
    ·have hy0:((x.list[j]?).getD ah).kind=0:=by rw [HYD.out];exact hk
     rw [hk] at lk
     clear hk
     by_cases hm:f.must=true
     ·have hlm:=hm▸aa2
      obtain ⟨Xe,hse,hle,_,hbe,zD,_⟩:=bJ HXb rfl 0 none 0 0
      have HE:Hid (R= .error (j,72)):=Nl.out.trans (by rw [lU hlj HI.out xJ.out (wU hy0 hm)])
      have AP:=ajd hle
      have AQ:Hid (Below w.heap.size w Xe):=HBb.trans (hbe.mono (by omega))
      clear hle hbe zD
      go_wp2
      exact bodyPost_ret_by (aR rfl rfl AP.out rfl rfl) rfl (by rw [HE.out];exact ⟨AQ.out,rfl⟩)
     ·have hm:f.must=false:=by simpa using hm
      have hlm:=hm▸aa2
      have HIT:Hid (bA (ai n) f ((x.list[j]?).getD ah)= .ok f.dflt):=wT hy0 hm
      obtain ⟨hth,hstep⟩:=ZB.out.step (w2:=Wb) (y:=f.dflt) (lv:= .slice none 0 0) (by omega) (Below.refl _ _) hdf (OL.nil _ _) (ku.none _ _) (aM.one _)
      have hst:=aD (t:=f.dflt) (a:=none) (n:=0) (c:=0) hth
      rw [hlj] at hst hstep
      obtain ⟨X7,hX7⟩:∃ X7,Wb.setCells w3.heap.size (j*5) (f.dflt.cells (.slice none 0 0))=X7:=⟨_,rfl⟩
      rw [hX7] at hst hstep
      replace hst:(Instr.storeAt 25 (.pointer (some ⟨w3.heap.size,j*5,none⟩)) (.agg #[.int .i64 f.dk,.int .u64 f.dn,.string ⟨f.dt.toArray⟩,.slice none 0 0,.int .i64 0])).run Tryz.prog Wb= .ok () X7:=hst
      have HU7:=ajd hstep
      have HI7:=ajd (kW hlj HI.out xJ.out HIT.out)
      clear hth hstep hX7
      go_wp2
      go_roundw
      case rel=>exact ⟨j+1,_,by go_num,by simp [hlj],by omega,HI7.out,HU7.out⟩
      case measure=>simp [intOf];omega
    have hk0:(y.kind==0)=false:=by simp [hk]
    by_cases hs:f.type=101∧y.kind=20
    ·have HIT:Hid (bA (ai n) f ((x.list[j]?).getD ah)= .ok (gB y)):=by rw [HYD.out];exact Gm hs.1 hs.2
     have hlt1:=aa1
     rw [hs.1] at hlt1
     rw [hs.2] at lk
     have HCP:Hid (∀ v,Below Wb.heap.size Wb v→Calls Tryz.prog 105 #[y.agg (.slice yq y.list.length yd)] v fun r w'=>∃ gM us,r= .returned (y.agg gM)∧OL w' N gM y.list us∧ku v.heap.size w'.heap.size us∧aM us∧Below v.heap.size v w'):=fun v h=>
      copies N B y _ v HYF.out (oD.out v h).2.1 (oD.out v h).2.2.2 (by have:=HNY.out;omega)
     have aic:(gB y).bD:=⟨by show _≤(23:Int);omega,by show (23:Int)≤_;omega,by show (0:Int)≤0;omega,by show (0:Int)≤_;omega,by show _≤(20:Int);omega,by show (20:Int)≤_;omega,by show fE.size≤_;decide⟩
     clear hs hk aa1
     go_wp2
     have hla:=(oD.out Wb.drew (Below.refl _ _).drew).1
     have hlr1:=ZC.out Wb.drew (Below.refl _ _).drew
     go_region_with
      ((go_at_call 105
        go_must (
        refine (HCP.out Wb.drew (Below.refl _ _).drew).mono ?_
        rintro r w5 ⟨lv5,us5,rfl,Fy,Vf,aa5,cB⟩
        have hb5:Below Wb.heap.size Wb w5:=(Below.refl _ _).drew.trans cB
        have Vf:ku Wb.heap.size w5.heap.size us5:=Vf
        obtain ⟨q5,c5,rfl⟩:=Fy.slice
        have hlr5:=ZC.out w5 hb5
        obtain ⟨W6,hW6⟩:∃ W6,w5.alloc (.cells #[.int .i64 y.kind,.int .u64 y.num,.string y.text,.slice q5 y.list.length c5,.int .i64 y.elem] 25)=W6:=⟨_,rfl⟩
        have oH:=hb5.size
        obtain ⟨VL,Sb,FW,Nn,hb6⟩:=OL.single (lo:=Wb.heap.size) (Fy.lvN (by have:=aX y;have:=HNY.out;unfold LV;omega)) HYF.out Vf aa5 (by have:=HNY.out;omega) oH hW6 rfl
        have adl:Below Wb.heap.size Wb W6:=hb5.trans (hb6.mono oH)
        have aid:=ZC.out W6 adl
        rw [←hW6] at aid
        obtain ⟨hth,hstep⟩:=ZB.out.step (w2:=W6) (y:=gB y) (lv:= .slice (some ⟨w5.heap.size,0,none⟩) 1 1) (by omega) adl aic Sb FW Nn
        have hst:=aD (t:=gB y) (a:=some ⟨w5.heap.size,0,none⟩) (n:=1) (c:=1) hth
        rw [hlj] at hst hstep
        obtain ⟨X7,hX7⟩:∃ X7,W6.setCells w3.heap.size (j*5) ((gB y).cells (.slice (some ⟨w5.heap.size,0,none⟩) 1 1))=X7:=⟨_,rfl⟩
        rw [hX7] at hst hstep
        rw [←hW6] at hst
        replace hst:(Instr.storeAt 25 (.pointer (some ⟨w3.heap.size,j*5,none⟩)) (.agg #[.int .i64 23,.int .u64 0,.string ⟨#[]⟩,.slice (some ⟨w5.heap.size,0,none⟩) 1 1,.int .i64 20])).run Tryz.prog (w5.alloc (.cells #[.int .i64 y.kind,.int .u64 y.num,.string y.text,.slice q5 y.list.length c5,.int .i64 y.elem] 25))= .ok () X7:=hst
        have HU7:=ajd hstep
        have HI7:=ajd (kW hlj HI.out xJ.out HIT.out)
        clear hth hstep hX7 hW6 adl hb6 Sb FW Nn Fy Vf aa5 hb5 cB)))
     all_goals
      go_wp2
      go_roundw
      case rel=>exact ⟨j+1,_,by go_num,by simp [hlj],by omega,HI7.out,HU7.out⟩
      case measure=>simp [intOf];omega
    have Yz:Hid (y.kind≠0):=hk
    have hns:=hs
    clear hs
    go_upto_region 20 with (fail)
    go_cut [56,104] from 56 to 137 (fun s56 aie wx=>s56= .int .i64 j∧aie= .bool false∧Wb=wx)
    case first=>
     by_cases ht:f.type=101
     ·have hk20:(y.kind==20)=false:=by simp;intro h;exact hns ⟨ht,h⟩
      have hlt1:=aa1
      rw [ht] at hlt1
      clear ht aa1
      go_wp2_with (fail)
      go_meet
      exact ⟨rfl,rfl,rfl⟩
     ·have ht1:(f.type==101)=false:=by simp [ht]
      clear ht
      go_wp2_with (fail)
      go_meet
      exact ⟨rfl,rfl,rfl⟩
    case rest=>
     obtain ⟨rfl,rfl,rfl⟩:=hcut
     obtain ⟨Z,hZ⟩:∃ Z,bF f y=Z:=⟨_,rfl⟩
     have Qo:=ajd hZ
     have HWT:Hid (∀ v,Below Wb.heap.size Wb v→Calls Tryz.prog 106 #[jJ f (.slice kp f.kinds.length kc),y.agg (.slice yq y.list.length yd)] v fun r w'=>r= .returned (.bool Z)∧Below v.heap.size v w'):=fun v h=>by
      have:=EO (N:=N) (B:=B) f (.slice kp f.kinds.length kc) y (.slice yq y.list.length yd) v (oD.out v h).2.2.1 (HKS.out.below h) HKL.out HYF.out (oD.out v h).2.1 (oD.out v h).2.2.2
      rw [hZ] at this
      exact this
     clear hZ hk
     go_wp2
     go_region_held3 (fun v=>(Instr.loadAt 121 (.pointer (some ⟨wr.heap.size,0,none⟩))).run Tryz.prog v= .ok (jJ f (.slice kp f.kinds.length kc)) v∧(Instr.loadAt 25 (.pointer (some ⟨qb,Ve+j*5,none⟩))).run Tryz.prog v= .ok (y.agg (.slice yq y.list.length yd)) v)
      (first
        |with_reducible exact ⟨gL.out _ hb5,(oD.out _ hb5).1⟩
        |with_reducible exact ⟨gL.out _ (Below.refl _ _).drew,(oD.out _ (Below.refl _ _).drew).1⟩
        |with_reducible exact ⟨gL.out _ (Below.refl _ _),(oD.out _ (Below.refl _ _)).1⟩)
      ((go_at_call 106;refine (HWT.out _ (Below.refl _ _).drew).mono ?_;rintro r V ⟨rfl,cB⟩;have hb5:Below Wb.heap.size Wb V:=(Below.refl _ _).drew.trans cB;clear cB))
     have gq:=ajd hb5
     clear hb5
     cases Z with
     |false=>
      have HIT:Hid (bA (ai n) f ((x.list[j]?).getD ah)= .error 73):=by rw [HYD.out];exact Gn Yz.out hns Qo.out
      have VM:Hid (Below w.heap.size w V):=NL.out.trans (gq.out.mono (by omega))
      have hx8:=EX.out.below (YT.out.trans (gq.out.mono (by omega))) (by omega)
      obtain ⟨Xe,hse,hle,_,hbe,zD,_⟩:=bJ hx8 rfl 0 none 0 0
      have HE:Hid (R= .error (j,73)):=Nl.out.trans (by rw [lU hlj HI.out xJ.out HIT.out])
      have AP:=ajd hle
      have AQ:Hid (Below w.heap.size w Xe):=VM.out.trans (hbe.mono (by omega))
      clear hle hbe zD
      go_wp2
      exact bodyPost_ret_by (aR rfl rfl AP.out rfl rfl) rfl (by rw [HE.out];exact ⟨AQ.out,rfl⟩)
     |true=>
      have HIR:Hid (bA (ai n) f ((x.list[j]?).getD ah)=ai n f y):=by rw [HYD.out];exact KT Yz.out hns Qo.out
      clear hns
      by_cases h102:f.type=102
      ·have VK:Hid (JD f= .func (.func 122) #[] #[]):=if_pos h102
       obtain ⟨a,ha⟩:∃ a,ai n f y=a:=⟨_,rfl⟩
       have uQ:Hid (∀ v,Below V.heap.size V v→Calls Tryz.prog 122 #[y.agg (.slice yq y.list.length yd)] v fun r w'=>bG a v r w'):=fun v h=>by
        have hh:Below Wb.heap.size Wb v:=gq.out.trans (h.mono gq.out.size)
        have:=HRC.out B N f y _ v (oD.out v hh).2.2.1 HYF.out (oD.out v hh).2.1 (oD.out v hh).2.2.2 h102 (Nat.lt_of_lt_of_le (nk BP.out (List.mem_of_getElem? xJ.out) h102 Qo.out) Fx) (Nat.le_trans (Nat.mul_le_mul_right _ (Nat.add_le_add_right HNY.out 13)) o7.out)
        rw [ha] at this
        exact this
       have HIA:Hid (bA (ai n) f ((x.list[j]?).getD ah)=a):=HIR.out.trans ha
       have HEA:Hid (∀ e,a= .error e→e≠0):=fun e he=>kU n f y e (ha.trans he)
       clear ha h102
       cases a with
       |ok z=>
        have HIT:Hid (bA (ai n) f ((x.list[j]?).getD ah)= .ok z):=HIA.out
        go_upto_region 12 with (fail)
        go_cut [13,14,56] from 56 to 137 (fun s13 s14 s56 wx=>∃ (bx:Nat) (X9:World) (q6:Option Addr) (c6:Nat),s13= .pointer (some ⟨bx,0,none⟩)∧s14= .int .i64 0∧s56= .int .i64 j∧(Instr.loadAt 25 (.pointer (some ⟨bx,0,none⟩))).run Tryz.prog wx= .ok (.agg #[.int .i64 z.kind,.int .u64 z.num,.string z.text,.slice q6 z.list.length c6,.int .i64 z.elem]) wx∧(Instr.storeAt 25 (.pointer (some ⟨w3.heap.size,j*5,none⟩)) (.agg #[.int .i64 z.kind,.int .u64 z.num,.string z.text,.slice q6 z.list.length c6,.int .i64 z.elem])).run Tryz.prog wx= .ok () X9∧(Instr.loadAt 23 (.pointer (some ⟨w3.heap.size+1,1,none⟩))).run Tryz.prog wx= .ok (.slice (some ⟨w3.heap.size,0,none⟩) m m) wx∧Hid (pz w3.heap.size m X5 (ys++[z]) X9))
        case first=>
         have hzD:V.drew.heap.size=V.heap.size:=rfl
         have hD:Below V.heap.size V V.drew:=(Below.refl _ _).drew
         have vV:Below V.heap.size V ((V.alloc (.cells #[.int .i64 0,.int .u64 0,.string ⟨#[]⟩,.slice none 0 0,.int .i64 0] 25)).drew):=((Below.refl _ _).alloc (Nat.le_refl _) _).drew
         have zi:=gL.out V.drew (gq.out.trans (hD.mono gq.out.size))
         have AO:=(oD.out V.drew (gq.out.trans (hD.mono gq.out.size))).1
         have zq:=gL.out ((V.alloc (.cells #[.int .i64 0,.int .u64 0,.string ⟨#[]⟩,.slice none 0 0,.int .i64 0] 25)).drew) (gq.out.trans (vV.mono gq.out.size))
         have zu:=(oD.out ((V.alloc (.cells #[.int .i64 0,.int .u64 0,.string ⟨#[]⟩,.slice none 0 0,.int .i64 0] 25)).drew) (gq.out.trans (vV.mono gq.out.size))).1
         go_region_held3 (fun v=>(Instr.loadAt 121 (.pointer (some ⟨wr.heap.size,0,none⟩))).run Tryz.prog v= .ok (jJ f (.slice kp f.kinds.length kc)) v∧(Instr.loadAt 25 (.pointer (some ⟨qb,Ve+j*5,none⟩))).run Tryz.prog v= .ok (y.agg (.slice yq y.list.length yd)) v)
          (first
            |with_reducible exact AR
            |with_reducible exact hv7
            |with_reducible exact hv6
            |with_reducible exact ⟨zw,zx⟩
            |with_reducible exact ⟨EP,ER⟩
            |with_reducible exact ⟨zq,zu⟩
            |with_reducible exact ⟨zi,AO⟩)
          ((first
            |(go_at_call 96
              go_must (
              first
               |(refine (dD f (.slice kp f.kinds.length kc) V.drew).mono ?_
                 rintro r w5 ⟨rfl,cB⟩
                 have hb5:Below V.heap.size V w5:=hD.trans cB)
               |(refine (dD f (.slice kp f.kinds.length kc) ((V.alloc (.cells #[.int .i64 0,.int .u64 0,.string ⟨#[]⟩,.slice none 0 0,.int .i64 0] 25)).drew)).mono ?_
                 rintro r w5 ⟨rfl,cB⟩
                 obtain ⟨xA0,oJ,_⟩:=aH (w:=V) (cs:=ah.cells (.slice none 0 0)) (T:=25) rfl
                 have VN:V.heap.size+1≤w5.heap.size:=by have:=cB.size;have:((V.alloc (.cells #[.int .i64 0,.int .u64 0,.string ⟨#[]⟩,.slice none 0 0,.int .i64 0] 25)).drew).heap.size=V.heap.size+1:=oJ;omega
                 have xA1:eF ((V.alloc (.cells #[.int .i64 0,.int .u64 0,.string ⟨#[]⟩,.slice none 0 0,.int .i64 0] 25)).drew) V.heap.size (ah.cells (.slice none 0 0)):=xA0.heap rfl
                 have xA:eF w5 V.heap.size (ah.cells (.slice none 0 0)):=xA1.below cB (by have:((V.alloc (.cells #[.int .i64 0,.int .u64 0,.string ⟨#[]⟩,.slice none 0 0,.int .i64 0] 25)).drew).heap.size=V.heap.size+1:=oJ;omega)
                 have hb5:Below V.heap.size V w5:=vV.trans (cB.mono vV.size)
                 clear xA0 xA1 oJ)
              clear cB
              have oH:V.heap.size≤w5.heap.size:=hb5.size
              have EP:=gL.out w5 (gq.out.trans (hb5.mono gq.out.size))
              have ER:=(oD.out w5 (gq.out.trans (hb5.mono gq.out.size))).1
              have jy:Below V.heap.size V (w5.alloc (.cells #[.int .i64 0,.int .u64 0,.string ⟨#[]⟩,.slice none 0 0,.int .i64 0] 25)):=hb5.trans ((Below.refl _ _).alloc oH _)
              have zx:=(oD.out (w5.alloc (.cells #[.int .i64 0,.int .u64 0,.string ⟨#[]⟩,.slice none 0 0,.int .i64 0] 25)) (gq.out.trans (jy.mono gq.out.size))).1
              have zw:=gL.out (w5.alloc (.cells #[.int .i64 0,.int .u64 0,.string ⟨#[]⟩,.slice none 0 0,.int .i64 0] 25)) (gq.out.trans (jy.mono gq.out.size))
              rw [VK.out]))
            |(go_at_call 122
              go_must (
              first
               |(refine (uQ.out w5 hb5).mono ?_
                 rintro r w6 bQ
                 obtain ⟨hb6,Sc,VL,rfl,zf,zo,zk,za⟩:=bQ
                 obtain ⟨q6,c6,rfl⟩:=zo.slice
                 have xG:w5.heap.size≤w6.heap.size:=hb6.size
                 first
                  |(have VO:=xA
                    clear VO
                    have x7:=xA.below hb6 (by have:V.heap.size+1≤w5.heap.size:=VN;omega)
                    have h7:Below Wb.heap.size Wb w6:=gq.out.trans ((hb5.trans (hb6.mono oH)).mono gq.out.size)
                    have hbx:Wb.heap.size≤V.heap.size:=gq.out.size
                    have hv7:=And.intro (gL.out _ h7) (oD.out _ h7).1
                    obtain ⟨X8,X9,iw,Sd,h8,uT,Np⟩:=qJ ZB.out (by omega) h7 x7 rfl hbx zf (zo) (zk.mono (by have:=gq.out.size;have:=hb5.size;omega) (Nat.le_refl _)) za (fun u hu b hb=>by have:=zk u hu b hb;have:V.heap.size+1≤w5.heap.size:=VN;omega)
                    rw [hlj] at uT
                    have JL:=ZC.out X8 h8
                    have AR:=And.intro (gL.out _ h8) (oD.out _ h8).1
                    have YV:=ajd Np
                    clear Np h8 h7 x7 hb6 zf zo zk za)
                  |(
                    obtain ⟨x7,rY,kr⟩:=aH (w:=w6) (cs:=ah.cells (.slice none 0 0)) (T:=25) rfl
                    have h6:Below Wb.heap.size Wb w6:=gq.out.trans ((hb5.trans (hb6.mono oH)).mono gq.out.size)
                    have h7:Below Wb.heap.size Wb (w6.alloc (.cells #[.int .i64 0,.int .u64 0,.string ⟨#[]⟩,.slice none 0 0,.int .i64 0] 25)):=h6.trans (kr.mono h6.size)
                    have hbx:Wb.heap.size≤w6.heap.size:=h6.size
                    have hv6:=And.intro (gL.out _ h6) (oD.out _ h6).1
                    have hv7:=And.intro (gL.out _ h7) (oD.out _ h7).1
                    obtain ⟨X8,X9,iw,Sd,h8,uT,Np⟩:=qJ ZB.out (by omega) h7 x7 rfl hbx zf (zo.below kr) (zk.mono (by have:=gq.out.size;have:=hb5.size;omega) kr.size) za (fun u hu b hb=>by have:=zk u hu b hb;omega)
                    rw [hlj] at uT
                    have JL:=ZC.out X8 h8
                    have AR:=And.intro (gL.out _ h8) (oD.out _ h8).1
                    have YV:=ajd Np
                    clear Np h8 h7 x7 hb6 zf zo zk za))
               |(refine (uQ.out (w5.alloc (.cells #[.int .i64 0,.int .u64 0,.string ⟨#[]⟩,.slice none 0 0,.int .i64 0] 25)) jy).mono ?_
                 rintro r w6 bQ
                 obtain ⟨hb6,Sc,VL,rfl,zf,zo,zk,za⟩:=bQ
                 obtain ⟨q6,c6,rfl⟩:=zo.slice
                 obtain ⟨xB,Sg,_⟩:=aH (w:=w5) (cs:=ah.cells (.slice none 0 0)) (T:=25) rfl
                 have Sg:(w5.alloc (.cells #[.int .i64 0,.int .u64 0,.string ⟨#[]⟩,.slice none 0 0,.int .i64 0] 25)).heap.size=w5.heap.size+1:=Sg
                 have xB:eF (w5.alloc (.cells #[.int .i64 0,.int .u64 0,.string ⟨#[]⟩,.slice none 0 0,.int .i64 0] 25)) w5.heap.size (ah.cells (.slice none 0 0)):=xB
                 have xG:(w5.alloc (.cells #[.int .i64 0,.int .u64 0,.string ⟨#[]⟩,.slice none 0 0,.int .i64 0] 25)).heap.size≤w6.heap.size:=hb6.size
                 have x7:=xB.below hb6 (by omega)
                 have h7:Below Wb.heap.size Wb w6:=gq.out.trans ((jy.trans (hb6.mono (by omega))).mono gq.out.size)
                 have hbx:Wb.heap.size≤w5.heap.size:=by have:=gq.out.size;omega
                 have hv7:=And.intro (gL.out _ h7) (oD.out _ h7).1
                 obtain ⟨X8,X9,iw,Sd,h8,uT,Np⟩:=qJ ZB.out (by omega) h7 x7 rfl hbx zf (zo) (zk.mono (by have:=gq.out.size;omega) (Nat.le_refl _)) za (fun u hu b hb=>by have:=zk u hu b hb;omega)
                 rw [hlj] at uT
                 have JL:=ZC.out X8 h8
                 have AR:=And.intro (gL.out _ h8) (oD.out _ h8).1
                 have YV:=ajd Np
                 clear Np h8 h7 x7 hb6 zf zo zk za)))))
         all_goals
          go_wp2_with (fail)
          go_meet
          case rel=>exact ⟨_,_,_,_,rfl,rfl,rfl,Sd,uT,JL,YV.out⟩
        case rest=>
         obtain ⟨bx,X9,q6,c6,rfl,rfl,rfl,Sd,uT,JL,YV⟩:=hcut
         have HI9:=ajd (kW hlj HI.out xJ.out HIT.out)
         go_wp2
         go_roundw
         case rel=>exact ⟨j+1,_,by go_num,by simp [hlj],by omega,HI9.out,YV.out⟩
         case measure=>simp [intOf];omega
       |error e=>
        have HIT:Hid (bA (ai n) f ((x.list[j]?).getD ah)= .error e):=HIA.out
        have hee:(e !=0)=true:=by simp [HEA.out e rfl]
        go_upto_region 12 with (fail)
        go_cut [13,14,56] from 56 to 137 (fun s13 s14 s56 wx=>∃ (bx:Nat),s13= .pointer (some ⟨bx,0,none⟩)∧s14= .int .i64 e∧s56= .int .i64 j∧Hid (Below Wb.heap.size Wb wx))
        case first=>
         have hzD:V.drew.heap.size=V.heap.size:=rfl
         have hD:Below V.heap.size V V.drew:=(Below.refl _ _).drew
         have vV:Below V.heap.size V ((V.alloc (.cells #[.int .i64 0,.int .u64 0,.string ⟨#[]⟩,.slice none 0 0,.int .i64 0] 25)).drew):=((Below.refl _ _).alloc (Nat.le_refl _) _).drew
         have zi:=gL.out V.drew (gq.out.trans (hD.mono gq.out.size))
         have AO:=(oD.out V.drew (gq.out.trans (hD.mono gq.out.size))).1
         have zq:=gL.out ((V.alloc (.cells #[.int .i64 0,.int .u64 0,.string ⟨#[]⟩,.slice none 0 0,.int .i64 0] 25)).drew) (gq.out.trans (vV.mono gq.out.size))
         have zu:=(oD.out ((V.alloc (.cells #[.int .i64 0,.int .u64 0,.string ⟨#[]⟩,.slice none 0 0,.int .i64 0] 25)).drew) (gq.out.trans (vV.mono gq.out.size))).1
         go_region_held3 (fun v=>(Instr.loadAt 121 (.pointer (some ⟨wr.heap.size,0,none⟩))).run Tryz.prog v= .ok (jJ f (.slice kp f.kinds.length kc)) v∧(Instr.loadAt 25 (.pointer (some ⟨qb,Ve+j*5,none⟩))).run Tryz.prog v= .ok (y.agg (.slice yq y.list.length yd)) v)
          (first
            |with_reducible exact AR
            |with_reducible exact hv7
            |with_reducible exact hv6
            |with_reducible exact ⟨zw,zx⟩
            |with_reducible exact ⟨EP,ER⟩
            |with_reducible exact ⟨zq,zu⟩
            |with_reducible exact ⟨zi,AO⟩)
          ((first
            |(go_at_call 96
              go_must (
              first
               |(refine (dD f (.slice kp f.kinds.length kc) V.drew).mono ?_
                 rintro r w5 ⟨rfl,cB⟩
                 have hb5:Below V.heap.size V w5:=hD.trans cB)
               |(refine (dD f (.slice kp f.kinds.length kc) ((V.alloc (.cells #[.int .i64 0,.int .u64 0,.string ⟨#[]⟩,.slice none 0 0,.int .i64 0] 25)).drew)).mono ?_
                 rintro r w5 ⟨rfl,cB⟩
                 obtain ⟨xA0,oJ,_⟩:=aH (w:=V) (cs:=ah.cells (.slice none 0 0)) (T:=25) rfl
                 have VN:V.heap.size+1≤w5.heap.size:=by have:=cB.size;have:((V.alloc (.cells #[.int .i64 0,.int .u64 0,.string ⟨#[]⟩,.slice none 0 0,.int .i64 0] 25)).drew).heap.size=V.heap.size+1:=oJ;omega
                 have xA1:eF ((V.alloc (.cells #[.int .i64 0,.int .u64 0,.string ⟨#[]⟩,.slice none 0 0,.int .i64 0] 25)).drew) V.heap.size (ah.cells (.slice none 0 0)):=xA0.heap rfl
                 have xA:eF w5 V.heap.size (ah.cells (.slice none 0 0)):=xA1.below cB (by have:((V.alloc (.cells #[.int .i64 0,.int .u64 0,.string ⟨#[]⟩,.slice none 0 0,.int .i64 0] 25)).drew).heap.size=V.heap.size+1:=oJ;omega)
                 have hb5:Below V.heap.size V w5:=vV.trans (cB.mono vV.size)
                 clear xA0 xA1 oJ)
              clear cB
              have oH:V.heap.size≤w5.heap.size:=hb5.size
              have EP:=gL.out w5 (gq.out.trans (hb5.mono gq.out.size))
              have ER:=(oD.out w5 (gq.out.trans (hb5.mono gq.out.size))).1
              have jy:Below V.heap.size V (w5.alloc (.cells #[.int .i64 0,.int .u64 0,.string ⟨#[]⟩,.slice none 0 0,.int .i64 0] 25)):=hb5.trans ((Below.refl _ _).alloc oH _)
              have zx:=(oD.out (w5.alloc (.cells #[.int .i64 0,.int .u64 0,.string ⟨#[]⟩,.slice none 0 0,.int .i64 0] 25)) (gq.out.trans (jy.mono gq.out.size))).1
              have zw:=gL.out (w5.alloc (.cells #[.int .i64 0,.int .u64 0,.string ⟨#[]⟩,.slice none 0 0,.int .i64 0] 25)) (gq.out.trans (jy.mono gq.out.size))
              rw [VK.out]))
            |(go_at_call 122
              go_must (
              first
               |(refine (uQ.out w5 hb5).mono ?_
                 rintro r w6 bQ
                 obtain ⟨hb6,rfl⟩:=bQ
                 have xG:w5.heap.size≤w6.heap.size:=hb6.size
                 first
                  |(have VO:=xA
                    clear VO
                    have x7:=xA.below hb6 (by have:V.heap.size+1≤w5.heap.size:=VN;omega)
                    have h7:Below Wb.heap.size Wb w6:=gq.out.trans ((hb5.trans (hb6.mono oH)).mono gq.out.size)
                    have hbx:Wb.heap.size≤V.heap.size:=gq.out.size
                    have hv7:=And.intro (gL.out _ h7) (oD.out _ h7).1
                    obtain ⟨X8,iw,h8⟩:=EW x7 rfl h7 hbx
                    have rR:(Instr.storeAt 25 (.pointer (some ⟨V.heap.size,0,none⟩)) (ah.agg (.slice none 0 0))).run Tryz.prog w6= .ok () X8:=iw
                    have Qt:=ajd h8
                    have AR:=And.intro (gL.out _ h8) (oD.out _ h8).1
                    clear h8 h7 x7 hb6)
                  |(
                    obtain ⟨x7,rY,kr⟩:=aH (w:=w6) (cs:=ah.cells (.slice none 0 0)) (T:=25) rfl
                    have h6:Below Wb.heap.size Wb w6:=gq.out.trans ((hb5.trans (hb6.mono oH)).mono gq.out.size)
                    have h7:Below Wb.heap.size Wb (w6.alloc (.cells #[.int .i64 0,.int .u64 0,.string ⟨#[]⟩,.slice none 0 0,.int .i64 0] 25)):=h6.trans (kr.mono h6.size)
                    have hbx:Wb.heap.size≤w6.heap.size:=h6.size
                    have hv6:=And.intro (gL.out _ h6) (oD.out _ h6).1
                    have hv7:=And.intro (gL.out _ h7) (oD.out _ h7).1
                    obtain ⟨X8,iw,h8⟩:=EW x7 rfl h7 hbx
                    have rR:(Instr.storeAt 25 (.pointer (some ⟨w6.heap.size,0,none⟩)) (ah.agg (.slice none 0 0))).run Tryz.prog (w6.alloc (.cells #[.int .i64 0,.int .u64 0,.string ⟨#[]⟩,.slice none 0 0,.int .i64 0] 25))= .ok () X8:=iw
                    have Qt:=ajd h8
                    have AR:=And.intro (gL.out _ h8) (oD.out _ h8).1
                    clear h8 h7 x7 hb6))
               |(refine (uQ.out (w5.alloc (.cells #[.int .i64 0,.int .u64 0,.string ⟨#[]⟩,.slice none 0 0,.int .i64 0] 25)) jy).mono ?_
                 rintro r w6 bQ
                 obtain ⟨hb6,rfl⟩:=bQ
                 obtain ⟨xB,Sg,_⟩:=aH (w:=w5) (cs:=ah.cells (.slice none 0 0)) (T:=25) rfl
                 have Sg:(w5.alloc (.cells #[.int .i64 0,.int .u64 0,.string ⟨#[]⟩,.slice none 0 0,.int .i64 0] 25)).heap.size=w5.heap.size+1:=Sg
                 have xB:eF (w5.alloc (.cells #[.int .i64 0,.int .u64 0,.string ⟨#[]⟩,.slice none 0 0,.int .i64 0] 25)) w5.heap.size (ah.cells (.slice none 0 0)):=xB
                 have xG:(w5.alloc (.cells #[.int .i64 0,.int .u64 0,.string ⟨#[]⟩,.slice none 0 0,.int .i64 0] 25)).heap.size≤w6.heap.size:=hb6.size
                 have x7:=xB.below hb6 (by omega)
                 have h7:Below Wb.heap.size Wb w6:=gq.out.trans ((jy.trans (hb6.mono (by omega))).mono gq.out.size)
                 have hbx:Wb.heap.size≤w5.heap.size:=by have:=gq.out.size;omega
                 have hv7:=And.intro (gL.out _ h7) (oD.out _ h7).1
                 obtain ⟨X8,iw,h8⟩:=EW x7 rfl h7 hbx
                 have rR:(Instr.storeAt 25 (.pointer (some ⟨w5.heap.size,0,none⟩)) (ah.agg (.slice none 0 0))).run Tryz.prog w6= .ok () X8:=iw
                 have Qt:=ajd h8
                 have AR:=And.intro (gL.out _ h8) (oD.out _ h8).1
                 clear h8 h7 x7 hb6)))))
         all_goals
          go_wp2_with (fail)
          go_meet
          case rel=>exact ⟨_,rfl,rfl,rfl,Qt.out⟩
        case rest=>
         obtain ⟨bx,rfl,rfl,rfl,Qt⟩:=hcut
         have VM:Hid (Below w.heap.size w wc):=NL.out.trans (Qt.out.mono (by omega))
         have hx8:=EX.out.below (YT.out.trans (Qt.out.mono (by omega))) (by omega)
         have VP:=Qt.out.size
         obtain ⟨Xe,hse,hle,_,hbe,zD,_⟩:=bJ hx8 rfl 0 none 0 0
         have HE:Hid (R= .error (j,e)):=Nl.out.trans (by rw [lU hlj HI.out xJ.out HIT.out])
         have AP:=ajd hle
         have AQ:Hid (Below w.heap.size w Xe):=VM.out.trans (hbe.mono (by omega))
         clear hle hbe zD
         go_wp2
         exact bodyPost_ret_by (aR rfl rfl AP.out rfl rfl) rfl (by rw [HE.out];exact ⟨AQ.out,rfl⟩)
      ·have VK:Hid (JD f= .func (.func 123) #[] #[]):=if_neg h102
       have HIT:Hid (bA (ai n) f ((x.list[j]?).getD ah)= .ok y):=HIR.out.trans (aV n f y h102)
       have uQ:Hid (∀ v,Below V.heap.size V v→Calls Tryz.prog 123 #[y.agg (.slice yq y.list.length yd)] v fun r w'=>bG (.ok y) v r w'):=fun v h=>
        have hh:Below Wb.heap.size Wb v:=gq.out.trans (h.mono gq.out.size)
        uO (N:=N) (B:=B) y _ v HYF.out (oD.out v hh).2.1 (oD.out v hh).2.2.2 (by have:=HNY.out;omega)
       clear h102
       go_upto_region 12 with (fail)
       go_cut [13,14,56] from 56 to 137 (fun s13 s14 s56 wx=>∃ (bx:Nat) (X9:World) (q6:Option Addr) (c6:Nat),s13= .pointer (some ⟨bx,0,none⟩)∧s14= .int .i64 0∧s56= .int .i64 j∧(Instr.loadAt 25 (.pointer (some ⟨bx,0,none⟩))).run Tryz.prog wx= .ok (.agg #[.int .i64 y.kind,.int .u64 y.num,.string y.text,.slice q6 y.list.length c6,.int .i64 y.elem]) wx∧(Instr.storeAt 25 (.pointer (some ⟨w3.heap.size,j*5,none⟩)) (.agg #[.int .i64 y.kind,.int .u64 y.num,.string y.text,.slice q6 y.list.length c6,.int .i64 y.elem])).run Tryz.prog wx= .ok () X9∧(Instr.loadAt 23 (.pointer (some ⟨w3.heap.size+1,1,none⟩))).run Tryz.prog wx= .ok (.slice (some ⟨w3.heap.size,0,none⟩) m m) wx∧Hid (pz w3.heap.size m X5 (ys++[y]) X9))
       case first=>
        have hzD:V.drew.heap.size=V.heap.size:=rfl
        have hD:Below V.heap.size V V.drew:=(Below.refl _ _).drew
        have vV:Below V.heap.size V ((V.alloc (.cells #[.int .i64 0,.int .u64 0,.string ⟨#[]⟩,.slice none 0 0,.int .i64 0] 25)).drew):=((Below.refl _ _).alloc (Nat.le_refl _) _).drew
        have zi:=gL.out V.drew (gq.out.trans (hD.mono gq.out.size))
        have AO:=(oD.out V.drew (gq.out.trans (hD.mono gq.out.size))).1
        have zq:=gL.out ((V.alloc (.cells #[.int .i64 0,.int .u64 0,.string ⟨#[]⟩,.slice none 0 0,.int .i64 0] 25)).drew) (gq.out.trans (vV.mono gq.out.size))
        have zu:=(oD.out ((V.alloc (.cells #[.int .i64 0,.int .u64 0,.string ⟨#[]⟩,.slice none 0 0,.int .i64 0] 25)).drew) (gq.out.trans (vV.mono gq.out.size))).1
        go_region_held3 (fun v=>(Instr.loadAt 121 (.pointer (some ⟨wr.heap.size,0,none⟩))).run Tryz.prog v= .ok (jJ f (.slice kp f.kinds.length kc)) v∧(Instr.loadAt 25 (.pointer (some ⟨qb,Ve+j*5,none⟩))).run Tryz.prog v= .ok (y.agg (.slice yq y.list.length yd)) v)
         (first
           |with_reducible exact AR
           |with_reducible exact hv7
           |with_reducible exact hv6
           |with_reducible exact ⟨zw,zx⟩
           |with_reducible exact ⟨EP,ER⟩
           |with_reducible exact ⟨zq,zu⟩
           |with_reducible exact ⟨zi,AO⟩)
         ((first
           |(go_at_call 96
             go_must (
             first
              |(refine (dD f (.slice kp f.kinds.length kc) V.drew).mono ?_
                rintro r w5 ⟨rfl,cB⟩
                have hb5:Below V.heap.size V w5:=hD.trans cB)
              |(refine (dD f (.slice kp f.kinds.length kc) ((V.alloc (.cells #[.int .i64 0,.int .u64 0,.string ⟨#[]⟩,.slice none 0 0,.int .i64 0] 25)).drew)).mono ?_
                rintro r w5 ⟨rfl,cB⟩
                obtain ⟨xA0,oJ,_⟩:=aH (w:=V) (cs:=ah.cells (.slice none 0 0)) (T:=25) rfl
                have VN:V.heap.size+1≤w5.heap.size:=by have:=cB.size;have:((V.alloc (.cells #[.int .i64 0,.int .u64 0,.string ⟨#[]⟩,.slice none 0 0,.int .i64 0] 25)).drew).heap.size=V.heap.size+1:=oJ;omega
                have xA1:eF ((V.alloc (.cells #[.int .i64 0,.int .u64 0,.string ⟨#[]⟩,.slice none 0 0,.int .i64 0] 25)).drew) V.heap.size (ah.cells (.slice none 0 0)):=xA0.heap rfl
                have xA:eF w5 V.heap.size (ah.cells (.slice none 0 0)):=xA1.below cB (by have:((V.alloc (.cells #[.int .i64 0,.int .u64 0,.string ⟨#[]⟩,.slice none 0 0,.int .i64 0] 25)).drew).heap.size=V.heap.size+1:=oJ;omega)
                have hb5:Below V.heap.size V w5:=vV.trans (cB.mono vV.size)
                clear xA0 xA1 oJ)
             clear cB
             have oH:V.heap.size≤w5.heap.size:=hb5.size
             have EP:=gL.out w5 (gq.out.trans (hb5.mono gq.out.size))
             have ER:=(oD.out w5 (gq.out.trans (hb5.mono gq.out.size))).1
             have jy:Below V.heap.size V (w5.alloc (.cells #[.int .i64 0,.int .u64 0,.string ⟨#[]⟩,.slice none 0 0,.int .i64 0] 25)):=hb5.trans ((Below.refl _ _).alloc oH _)
             have zx:=(oD.out (w5.alloc (.cells #[.int .i64 0,.int .u64 0,.string ⟨#[]⟩,.slice none 0 0,.int .i64 0] 25)) (gq.out.trans (jy.mono gq.out.size))).1
             have zw:=gL.out (w5.alloc (.cells #[.int .i64 0,.int .u64 0,.string ⟨#[]⟩,.slice none 0 0,.int .i64 0] 25)) (gq.out.trans (jy.mono gq.out.size))
             rw [VK.out]))
           |(go_at_call 123
             go_must (
             first
              |(refine (uQ.out w5 hb5).mono ?_
                rintro r w6 bQ
                obtain ⟨hb6,Sc,VL,rfl,zf,zo,zk,za⟩:=bQ
                obtain ⟨q6,c6,rfl⟩:=zo.slice
                have xG:w5.heap.size≤w6.heap.size:=hb6.size
                first
                 |(have VO:=xA
                   clear VO
                   have x7:=xA.below hb6 (by have:V.heap.size+1≤w5.heap.size:=VN;omega)
                   have h7:Below Wb.heap.size Wb w6:=gq.out.trans ((hb5.trans (hb6.mono oH)).mono gq.out.size)
                   have hbx:Wb.heap.size≤V.heap.size:=gq.out.size
                   have hv7:=And.intro (gL.out _ h7) (oD.out _ h7).1
                   obtain ⟨X8,X9,iw,Sd,h8,uT,Np⟩:=qJ ZB.out (by omega) h7 x7 rfl hbx zf (zo) (zk.mono (by have:=gq.out.size;have:=hb5.size;omega) (Nat.le_refl _)) za (fun u hu b hb=>by have:=zk u hu b hb;have:V.heap.size+1≤w5.heap.size:=VN;omega)
                   rw [hlj] at uT
                   have JL:=ZC.out X8 h8
                   have AR:=And.intro (gL.out _ h8) (oD.out _ h8).1
                   have YV:=ajd Np
                   clear Np h8 h7 x7 hb6 zf zo zk za)
                 |(
                   obtain ⟨x7,rY,kr⟩:=aH (w:=w6) (cs:=ah.cells (.slice none 0 0)) (T:=25) rfl
                   have h6:Below Wb.heap.size Wb w6:=gq.out.trans ((hb5.trans (hb6.mono oH)).mono gq.out.size)
                   have h7:Below Wb.heap.size Wb (w6.alloc (.cells #[.int .i64 0,.int .u64 0,.string ⟨#[]⟩,.slice none 0 0,.int .i64 0] 25)):=h6.trans (kr.mono h6.size)
                   have hbx:Wb.heap.size≤w6.heap.size:=h6.size
                   have hv6:=And.intro (gL.out _ h6) (oD.out _ h6).1
                   have hv7:=And.intro (gL.out _ h7) (oD.out _ h7).1
                   obtain ⟨X8,X9,iw,Sd,h8,uT,Np⟩:=qJ ZB.out (by omega) h7 x7 rfl hbx zf (zo.below kr) (zk.mono (by have:=gq.out.size;have:=hb5.size;omega) kr.size) za (fun u hu b hb=>by have:=zk u hu b hb;omega)
                   rw [hlj] at uT
                   have JL:=ZC.out X8 h8
                   have AR:=And.intro (gL.out _ h8) (oD.out _ h8).1
                   have YV:=ajd Np
                   clear Np h8 h7 x7 hb6 zf zo zk za))
              |(refine (uQ.out (w5.alloc (.cells #[.int .i64 0,.int .u64 0,.string ⟨#[]⟩,.slice none 0 0,.int .i64 0] 25)) jy).mono ?_
                rintro r w6 bQ
                obtain ⟨hb6,Sc,VL,rfl,zf,zo,zk,za⟩:=bQ
                obtain ⟨q6,c6,rfl⟩:=zo.slice
                obtain ⟨xB,Sg,_⟩:=aH (w:=w5) (cs:=ah.cells (.slice none 0 0)) (T:=25) rfl
                have Sg:(w5.alloc (.cells #[.int .i64 0,.int .u64 0,.string ⟨#[]⟩,.slice none 0 0,.int .i64 0] 25)).heap.size=w5.heap.size+1:=Sg
                have xB:eF (w5.alloc (.cells #[.int .i64 0,.int .u64 0,.string ⟨#[]⟩,.slice none 0 0,.int .i64 0] 25)) w5.heap.size (ah.cells (.slice none 0 0)):=xB
                have xG:(w5.alloc (.cells #[.int .i64 0,.int .u64 0,.string ⟨#[]⟩,.slice none 0 0,.int .i64 0] 25)).heap.size≤w6.heap.size:=hb6.size
                have x7:=xB.below hb6 (by omega)
                have h7:Below Wb.heap.size Wb w6:=gq.out.trans ((jy.trans (hb6.mono (by omega))).mono gq.out.size)
                have hbx:Wb.heap.size≤w5.heap.size:=by have:=gq.out.size;omega
                have hv7:=And.intro (gL.out _ h7) (oD.out _ h7).1
                obtain ⟨X8,X9,iw,Sd,h8,uT,Np⟩:=qJ ZB.out (by omega) h7 x7 rfl hbx zf (zo) (zk.mono (by have:=gq.out.size;omega) (Nat.le_refl _)) za (fun u hu b hb=>by have:=zk u hu b hb;omega)
                rw [hlj] at uT
                have JL:=ZC.out X8 h8
                have AR:=And.intro (gL.out _ h8) (oD.out _ h8).1
                have YV:=ajd Np
                clear Np h8 h7 x7 hb6 zf zo zk za)))))
        all_goals
         go_wp2_with (fail)
         go_meet
         case rel=>exact ⟨_,_,_,_,rfl,rfl,rfl,Sd,uT,JL,YV.out⟩
       case rest=>
        obtain ⟨bx,X9,q6,c6,rfl,rfl,rfl,Sd,uT,JL,YV⟩:=hcut
        have HI9:=ajd (kW hlj HI.out xJ.out HIT.out)
        go_wp2
        go_roundw
        case rel=>exact ⟨j+1,_,by go_num,by simp [hlj],by omega,HI9.out,YV.out⟩
        case measure=>simp [intOf];omega
   ·obtain rfl:j=m:=by omega
    have hit:eD (ai n) fs x.list 0= .ok ys:=vg (by rw [hlj];exact Hm.out.symm) HI.out
    have HE:Hid (R= .ok (k,ys)):=Nl.out.trans (by rw [hit])
    have hun:oM n t= .ok (k,ys):=HR.out.trans HE.out
    have hnl:aj ys≤1000000000000:=by have:=Iq (Wq n) hun;omega
    obtain ⟨us,ho,hbk,hap⟩:=HU.out.all hlj (by omega) hnl
    have hwr:Below w3.heap.size w3 wr:=Sa.out.trans HU.out.below
    have hrl:=gI (HU.out.box HR5.out (by omega) (by omega))
    have TG:w3.heap.size+2≤wr.heap.size:=by have:=HU.out.size;omega
    obtain ⟨Xe,hse,hle,_,hbe,zD,hsame⟩:=bJ (EX.out.below hwr (by omega)) rfl k (some ⟨w3.heap.size,0,none⟩) j j
    have AP:=ajd hle
    have AQ:Hid (Below w.heap.size w Xe):=(EF.out.trans (hwr.mono (by omega))).trans (hbe.mono (by omega))
    have HQ:Hid (OL Xe LV (.slice (some ⟨w3.heap.size,0,none⟩) j j) ys us∧ku w.heap.size Xe.heap.size us∧aM us):=⟨ho.heap (by omega) fun u hu b hb=>hsame b (by have:=hbk u hu b hb;omega),by rw [zD];exact hbk.mono (by omega) (Nat.le_refl _),hap⟩
    clear hit hun hnl ho hbk hap hwr hle hbe zD hsame
    go_wp2
    exact bodyPost_ret_by (aR rfl rfl AP.out rfl rfl) rfl (by rw [HE.out];exact ⟨AQ.out,_,us,rfl,HQ.out⟩)
end Go.Proofs.YtmldhjoolebjoaaGreatDoor.Va
