/-
  The texts P5 of this claim, one behind the other.
-/
import Derived.Test.YtmldhjoolebjoaaGreatDoorZTFB3
namespace Go.Proofs.YtmldhjoolebjoaaGreatDoor.Va
open Go Go.RowKit Nu Uc Fd Go.Proofs.YtmldhjoolebjoaaGreatDoor.Nm
attribute [-go_sem] Go.Instr.loadAt Go.Instr.storeAt
def Hr (n:Nat):Prop:=∀ (B N:Nat) (f:FT) (t:VT) (lv:Value) (w:World),Env w→t.bD→bR B w N lv t.list→B≤w.heap.size→f.type=102→Zv (kindOf t)<n→(nodes t+13)*2^n≤800000000→
    Calls Tryz.prog 122 #[t.agg lv] w fun r w'=>bG (ai n f t) w r w'
def YD (n:Nat):Prop:=∀ (B N:Nat) (k:Int) (fs:List FT) (l:List VT) (lv:Value) (w:World),Env w→aN k=some fs→l.length=fs.length→bR B w N lv l→B≤w.heap.size→rk k≤n→(aj l+13)*2^n≤800000000→
    (∀ (j:Nat) (f:FT) (v:VT),fs[j]? =some f→l[j]? =some v→v.kind=0∨mM v f.dflt=true∨bF f v=true)→
    Calls Tryz.prog 77 #[.agg #[.int .i64 k,lv]] w fun r w'=>∃ gM us,r= .returned ((aU n k l).agg gM)∧OL w' LV gM (aU n k l).list us∧ku w.heap.size w'.heap.size us∧aM us∧Below w.heap.size w w'
theorem wM {k:Int} {fs:List FT} (h:aN k=some fs):0≤k∧k≤120:=by
 obtain ⟨e,he,hk,_⟩:=eU h
 have:∀ e∈tab,e.1<121:=by decide
 have:=this e he
 omega
theorem JE (f:FT) (w:World) (hg:0≤f.dn∧f.dn≤18446744073709551615∧0≤f.dk∧f.dk≤100∧f.dt.length≤100):Zu 0 w 1 (.agg #[.int .i64 f.dk,.int .u64 f.dn,.string ⟨f.dt.toArray⟩,.slice none 0 0,.int .i64 0]) f.dflt:=
 ⟨⟨by show _≤f.dk;omega,by show f.dk≤_;omega,hg.1,hg.2.1,by show _≤(0:Int);omega,by show (0:Int)≤_;omega,by show f.dt.toArray.size≤_;simp [maxLen];omega⟩,_,rfl,.inl ⟨rfl,_,_,rfl⟩⟩
theorem aaT:∀ e∈tab,∀ f∈e.2,0≤f.dn∧f.dn≤18446744073709551615∧0≤f.dk∧f.dk≤100∧f.dt.length≤100:=by decide
theorem vN {k:Int} {fs:List FT} (h:aN k=some fs) {f:FT} (hf:f∈fs):0≤f.dn∧f.dn≤18446744073709551615∧0≤f.dk∧f.dk≤100∧f.dt.length≤100:=by
 obtain ⟨e,he,_,rfl⟩:=eU h
 exact aaT e he f hf
theorem gI {w:World} {b:Nat} {k:Int} {lv:Value} (h:eF w b [.int .i64 k,lv]):(Instr.loadAt 91 (.pointer (some ⟨b,0,none⟩))).run Tryz.prog w= .ok (.agg #[.int .i64 k,lv]) w:=
 Go.run_loadAt_mid w b 0 91 [.int .i64 k,lv] _ h.1 Tryz.underlying91 rfl (by kernel_rfl)
theorem iq:ah.bD:=⟨by decide,by decide,by decide,by decide,by decide,by decide,by decide⟩
theorem bG.get {a:Except Int VT} {w w':World} {r:Ending} (h:bG a w r w'):Below w.heap.size w w'∧∃ q d us e,r= .returned (.tuple #[(okV a).agg (.slice q (okV a).list.length d),.int .i64 e])∧(okV a).bD∧OL w' LV (.slice q (okV a).list.length d) (okV a).list us∧ku w.heap.size w'.heap.size us∧aM us:=by
 obtain ⟨hb,h⟩:=h
 refine ⟨hb,?_⟩
 cases a with
 |ok y=>
  obtain ⟨lv,us,h1,h2,h3,h4,h5⟩:=h
  obtain ⟨q,d,rfl⟩:=h3.slice
  exact ⟨q,d,us,0,h1,h2,h3,h4,h5⟩
 |error e=>exact ⟨none,0,[.slice none 0 0],e,h,iq,OL.nil _ _,ku.none _ _,aM.one _⟩
theorem vO {rd:Rd} {fs:List FT} {l:List VT} {i:Nat} {f:FT} {v:VT} (hf:fs[i]? =some f) (hv:l[i]? =some v):(List.zipWith (aT rd) fs l).take (i+1)=(List.zipWith (aT rd) fs l).take i++[aT rd f v]:=by
 rw [List.take_add_one,BU hf hv];rfl
set_option maxRecDepth 100000 in
set_option maxHeartbeats 8000000 in
theorem R8 {n:Nat} (hRC:Hr n):YD n:=by
 intro B N k fs l lv w hE hfs hll hl hB Fx hnd YE
 have aaU:aj l≤800000000:=by have:=Nat.le_mul_of_pos_right (aj l+13) (Nat.two_pow_pos n);omega
 obtain ⟨p,c,rfl⟩:=hl.slice
 have hkb:=wM hfs
 have hfl:=fP hfs
 obtain ⟨W1,hW1⟩:∃ W1,(w.alloc (.cells #[.int .i64 k,.slice p l.length c] 91)).alloc (.cells #[.int .i64 0,.int .u64 0,.string ⟨#[]⟩,.slice none 0 0,.int .i64 0] 25)=W1:=⟨_,rfl⟩
 obtain ⟨x1,x2,hz1,hb1⟩:=bK (cs:=[.int .i64 k,.slice p l.length c]) (ds:=ah.cells (.slice none 0 0)) hW1
 have l0:=aG (x1.cell (j:=0) rfl)
 have X1:=ajd x1
 have X2:=ajd x2
 have HB1:=ajd hb1
 have AJ:=ajd (hE.below hb1)
 have HL:=ajd hl
 have HFS:=ajd hfs
 have HRD:=ajd YE
 have o7:=ajd hnd
 have rE:=xE k W1
 unfold gH at rE
 rw [hfs] at rE
 have JF:=ajd rE
 have HRC:=ajd hRC
 obtain ⟨R,hR⟩:∃ R,aU n k l=R:=⟨_,rfl⟩
 have HR:Hid (R=fK k (eT (List.zipWith (aT (ai n)) fs l))):=by
  show R=_
  rw [←hR]
  show gN (ai n) k l=_
  unfold gN
  rw [hfs];rfl
 rw [hR]
 obtain ⟨m,hm⟩:∃ m,l.length=m:=⟨_,rfl⟩
 have Hm:=ajd hm
 have hfm:fs.length=m:=by omega
 have Zz:=ajd hfm
 rw [hm] at hW1 X1 HL ⊢
 have ah0:m≤13:=by omega
 clear hl x1 x2 hb1 hE hfs YE hnd rE hRC hR hm hfm hll hfl
 go_enter Tryz.func77,Tryz.ntmps77
 go_wp2_with (fail)
 clear hW1 l0
 refine JF.out.mono ?_
 rintro r w2 ⟨vf,rfl,hfo,hb2⟩
 have z2:=hb2.size
 have xI:=ajd (X1.out.below hb2 (by omega))
 have Au:=ajd (X2.out.below hb2 (by omega))
 have HB2:=ajd (HB1.out.trans (hb2.mono (by omega)))
 have HE2:=ajd (AJ.out.below hb2)
 have Cg:=ajd hfo
 have JG:j6 W1.heap.size w2.heap.size w2 vf fs:=hfo
 obtain ⟨fp,fc,rfl,hu⟩:=JG.view
 rw [Zz.out] at Cg ⊢
 have l2:=aF (xI.out.cell (j:=1) rfl)
 have HL2:=ajd (HL.out.below (HB2.out.mono hB))
 have HP0:Hid (fI w2.heap.size 25 w2 [] (.slice none 0 0) w2):=fI.start w2
 clear hb2 hfo hu JF HL
 simp only [Option.isSome_some]
 go_wp2
 clear l2
 obtain ⟨i0,hi0,hi1,hi2,hi3⟩:=info_parts uL
 go_loopw [5,17] (fun sv iv wr=>∃ (i:Nat) (items:List gp),iv= .int .i64 i∧i≤m∧Hid (bC items=(List.zipWith (aT (ai n)) fs l).take i)∧Hid (fI w2.heap.size 25 w2 items sv wr)) (fun _ iv _=>m-(intOf iv).toNat)
 case atStart=>exact ⟨0,[],rfl,Nat.zero_le _,(by show bC []=_;simp [bC]),HP0.out⟩
 case round=>
  obtain ⟨i,items,rfl,hi,HT,gK⟩:=hrel
  by_cases hlt:i<m
  ·obtain ⟨x,hx⟩:∃ x,l[i]? =some x:=⟨_,List.getElem?_eq_getElem (by rw [Hm.out];exact hlt)⟩
   obtain ⟨f,hf⟩:∃ f,fs[i]? =some f:=⟨_,List.getElem?_eq_getElem (by rw [Zz.out];exact hlt)⟩
   have rW:items.length=i:=by
    have:=congrArg List.length HT.out
    simp only [bC,List.length_map,List.length_take,List.length_zipWith] at this
    have h1:=Hm.out;have h2:=Zz.out
    omega
   cases N with
   |zero=>exact HL2.out.elim
   |succ N=>
   rcases HL2.out with ⟨h0,_⟩|⟨b,off,c',hp,jy,_,hel⟩
   ·exfalso;have:=Hm.out;rw [h0] at this;simp at this;omega
   rw [Hm.out] at hp
   cases hp
   obtain ⟨xf,xlv,Nc,xl⟩:=hel i x hx
   obtain ⟨xq,xd,rfl⟩:=xl.slice
   have ac7:Below B w2 wr:=gK.out.below.mono (by have:=HB2.out.size;omega)
   have TG:=gK.out.Bw
   obtain ⟨q1,d1,e1,hv⟩:=(Cg.out.below gK.out.below).view
   obtain ⟨fb,jX,kv,rfl,ZA,⟨a0,a1,a2,a3,a4,a5,a6,a7,a8⟩,hkv⟩:=hv i f hf
   simp only [Value.slice.injEq] at e1
   obtain ⟨rfl, -, -⟩:=e1
   have hcf:Cells wr fb (jX+i*9) (fA f kv):=fun j u hu=>by
    match j,hu with
    |0,hu=>cases hu;exact a0
    |1,hu=>cases hu;exact a1
    |2,hu=>cases hu;exact a2
    |3,hu=>cases hu;exact a3
    |4,hu=>cases hu;exact a4
    |5,hu=>cases hu;exact a5
    |6,hu=>cases hu;exact a6
    |7,hu=>cases hu;exact a7
    |8,hu=>cases hu;exact a8
    |j+9,hu=>simp [fA] at hu
   have le:=ag (dW (Nc.below ac7 jy))
   have ac8:(0:Int)≤(i:Int):=by omega
   have ac9:(i:Int)<(m:Int):=by omega
   obtain ⟨Wa,hWa⟩:∃ Wa,wr.alloc (.cells #[.int .i64 0,.int .u64 0,.string ⟨#[]⟩,.slice none 0 0,.int .i64 0] 25)=Wa:=⟨_,rfl⟩
   obtain ⟨xa,hza,hba⟩:=aH (cs:=ah.cells (.slice none 0 0)) hWa
   have AL:=aD (t:=x) (a:=xq) (n:=x.list.length) (c:=xd) (xa.part (o:=0) (n:=5) (Nat.le_refl _))
   have xb:=xa.all (vs:=x.cells (.slice xq x.list.length xd)) rfl
   have hbb:Below wr.heap.size wr (Wa.setCells wr.heap.size 0 (x.cells (.slice xq x.list.length xd))):=hba.trans (au (Nat.le_refl _) _ _)
   have hzb:(Wa.setCells wr.heap.size 0 (x.cells (.slice xq x.list.length xd))).heap.size=wr.heap.size+1:=by rw [aC];exact hza
   obtain ⟨Wb,hWb⟩:∃ Wb,Wa.setCells wr.heap.size 0 (x.cells (.slice xq x.list.length xd))=Wb:=⟨_,rfl⟩
   rw [hWb] at AL xb hbb hzb
   have hnx:nodes x≤aj l:=gY (List.mem_of_getElem? hx)
   have Nf:=vN HFS.out (List.mem_of_getElem? hf)
   have xJ:=ajd hf
   have HXI:=ajd hx
   have YG:=ajd xf
   have NL:=ajd hbb
   have U8:Hid (bR B Wb N (.slice xq x.list.length xd) x.list):=(xl.below ac7).below (hbb.mono (by have:=HB2.out.size;omega))
   have HEb:=ajd ((HE2.out.below gK.out.below).below hbb)
   have aff:=ajd xb
   have hmx:items.length+1≤maxLen:=by unfold maxLen;omega
   have hmb:(items.length+1)*64≤140737488355328:=by omega
   have YH:Hid (∀ v,Below Wb.heap.size Wb v→(Instr.loadAt 121 (.pointer (some ⟨fb,jX+i*9,none⟩))).run Tryz.prog v= .ok (jJ f (kv)) v∧(Instr.loadAt 25 (.pointer (some ⟨fb,jX+i*9+4,none⟩))).run Tryz.prog v= .ok (.agg #[.int .i64 f.dk,.int .u64 f.dn,.string ⟨f.dt.toArray⟩,.slice none 0 0,.int .i64 0]) v):=fun v h=>by
    have hc:Cells v fb (jX+i*9) (fA f kv):=fun j u hu=>(h.cell (p:=⟨fb,_,none⟩) (by show fb<Wb.heap.size;omega)).trans ((hbb.cell (p:=⟨fb,_,none⟩) ZA).trans (hcf j u hu))
    exact ⟨eY hc,ag (t:=f.dflt) (lv:= .slice none 0 0) fun j u hu=>by
     have:=hc (4+j) u (by
      match j,hu with
      |0,hu=>exact hu
      |1,hu=>exact hu
      |2,hu=>exact hu
      |3,hu=>exact hu
      |4,hu=>exact hu
      |j+5,hu=>simp [VT.cells] at hu)
     rwa [←Nat.add_assoc] at this⟩
   have U9:Hid (∀ v,Below Wb.heap.size Wb v→(Instr.loadAt 25 (.pointer (some ⟨wr.heap.size,0,none⟩))).run Tryz.prog v= .ok (x.agg (.slice xq x.list.length xd)) v∧(Instr.loadAt 3 (.pointer (some ⟨wr.heap.size,0,none⟩))).run Tryz.prog v= .ok (.int .i64 x.kind) v):=fun v h=>by
    have:=aff.out.below h (by omega)
    exact ⟨ag this.1,aG (this.cell (j:=0) rfl)⟩
   obtain ⟨sp,sc,rfl⟩:=gK.out.form
   rw [rW] at gK hmx hmb ⊢
   have uP:=ajd rW
   clear rW
   clear hel hx hf Nc xl xf hv hkv a0 a1 a2 a3 a4 a5 a6 a7 a8 hcf xa hba xb hbb hWb ac7
   go_wp2
   clear hWa AL le
   by_cases hk:x.kind=0
   ·have HIP:Hid (aT (ai n) f x=ah):=if_pos (.inl hk)
    have HLZ:Hid (∀ v,Below Wb.heap.size Wb v→(Instr.loadAt 3 (.pointer (some ⟨wr.heap.size,0,none⟩))).run Tryz.prog v= .ok (.int .i64 0) v):=fun v h=>by rw [←hk];exact (U9.out v h).2
    have zi:∀ q,(Instr.loadAt 3 (.pointer (some ⟨wr.heap.size,0,none⟩))).run Tryz.prog (Wb.drewN q)= .ok (.int .i64 0) (Wb.drewN q):=fun q=>HLZ.out _ (y9 (Below.refl _ _) q)
    clear hk
    go_quiet (fail)
    obtain ⟨V,hV⟩:∃ V,Wb.drewN nq=V:=⟨_,rfl⟩
    have HPV:Hid (fI w2.heap.size 25 w2 items (.slice sp i sc) V):=by rw [←hV];exact gK.out.keep (y9 NL.out nq)
    rw [hV]
    clear hV
    have zc:Below V.heap.size V (V.alloc (.cells #[.int .i64 0,.int .u64 0,.string ⟨#[]⟩,.slice none 0 0,.int .i64 0] 25)):=(Below.refl _ _).alloc (Nat.le_refl _) _
    have BG:=HPV.out.keep zc
    have zl:=ajd BG
    have hrow:=BG.row;rw [uP.out] at hrow
    have zm:=BG.Bw
    clear zc BG
    go_wp2_with (at_builtin;go_must (refine wpList_append_own_at _ rfl _ _ 23 rfl w2.heap.size 25 i0 _ 5 64 Tryz.underlying23 hi0 hi1 hi2 hi3 rfl (by decide) (.slice sp i sc) i (bE (fq items)) rfl hrow ⟨V.heap.size,0,none⟩ 1 1 (ah.cells (.slice none 0 0)) rfl rfl (pg V ah (.slice none 0 0) _) (pq _ _ _ _) hmx hmb zm ?_;intro v' w6 hown6 gJ qH qI))
    rw [←uP.out] at hown6
    have YI:Hid (fI w2.heap.size 25 w2 (items++[(ah,.slice none 0 0,[.slice none 0 0])]) v' w6):=zl.out.push (x:=(ah,.slice none 0 0,[.slice none 0 0])) (lo:=V.heap.size) iq (OL.nil _ _) (ku.none _ _) (aM.one _) (fun u hu b hb=>(HPV.out.blk u hu b hb).2) (fun b hb=>(HPV.out.iL hb).2) HPV.out.Bw hown6 gJ qI
    have YJ:Hid (bC (items++[((ah,.slice none 0 0,[.slice none 0 0]):gp)])=(List.zipWith (aT (ai n)) fs l).take (i+1)):=by
     show bC _=_
     rw [vO xJ.out HXI.out,HIP.out,←HT.out];simp [bC]
    clear hown6 gJ qH qI hrow zm
    go_roundw
    case rel=>exact ⟨i+1,_,by go_num,by omega,YJ.out,YI.out⟩
    case measure=>simp [intOf];omega
   ·have hkk:(x.kind==0)=false:=by simp [hk]
    have YK:Hid (∀ v,Below Wb.heap.size Wb v→Calls Tryz.prog 50 #[x.agg (.slice xq x.list.length xd),.agg #[.int .i64 f.dk,.int .u64 f.dn,.string ⟨f.dt.toArray⟩,.slice none 0 0,.int .i64 0]] v fun r w'=>r= .returned (.bool (mM x f.dflt))∧Below v.heap.size v w'):=fun v h=>
     (Qh (N:=N+1) (B:=B) (t:=x) (t':=f.dflt) ⟨YG.out,_,rfl,(U8.out.below (h.mono (by have:=HB2.out.size;omega))).mono (by omega)⟩ (let ⟨a,lv,e,hl⟩:=JE f v Nf;⟨a,lv,e,(hl.up (Nat.zero_le _)).mono (by omega)⟩) (by have:=HB2.out.size;have:=h.size;omega)).mono fun r w' ⟨h1,h2⟩=>⟨h1,h2.below⟩
    obtain ⟨Z,hZ⟩:∃ Z,mM x f.dflt=Z:=⟨_,rfl⟩
    rw [hZ] at YK
    have Qo:=ajd hZ
    clear hZ
    go_region_held3 (fun v=>(Instr.loadAt 25 (.pointer (some ⟨fb,jX+i*9+4,none⟩))).run Tryz.prog v= .ok (.agg #[.int .i64 f.dk,.int .u64 f.dn,.string ⟨f.dt.toArray⟩,.slice none 0 0,.int .i64 0]) v∧(Instr.loadAt 25 (.pointer (some ⟨wr.heap.size,0,none⟩))).run Tryz.prog v= .ok (x.agg (.slice xq x.list.length xd)) v∧(Instr.loadAt 3 (.pointer (some ⟨wr.heap.size,0,none⟩))).run Tryz.prog v= .ok (.int .i64 x.kind) v)
     (first
       |with_reducible exact ⟨(YH.out _ ((Below.refl _ _).drew.trans hb5)).2,U9.out _ ((Below.refl _ _).drew.trans hb5)⟩
       |with_reducible exact ⟨(YH.out _ (Below.refl _ _).drew).2,U9.out _ (Below.refl _ _).drew⟩
       |with_reducible exact ⟨(YH.out _ (Below.refl _ _)).2,U9.out _ (Below.refl _ _)⟩)
     ((go_at_call 50;refine (YK.out _ (Below.refl _ _).drew).mono ?_;rintro r V ⟨rfl,cB⟩;have hb5:Below Wb.heap.size Wb.drew V:=cB;clear cB))
    have HWV:=ajd ((Below.refl Wb.heap.size Wb).drew.trans hb5)
    clear hb5
    cases Z with
    |true=>
     have HIP:Hid (aT (ai n) f x=ah):=if_pos (.inr Qo.out)
     have HPV:Hid (fI w2.heap.size 25 w2 items (.slice sp i sc) V):=(gK.out.keep NL.out).keep HWV.out
     have zc:Below V.heap.size V (V.alloc (.cells #[.int .i64 0,.int .u64 0,.string ⟨#[]⟩,.slice none 0 0,.int .i64 0] 25)):=(Below.refl _ _).alloc (Nat.le_refl _) _
     have BG:=HPV.out.keep zc
     have zl:=ajd BG
     have hrow:=BG.row;rw [uP.out] at hrow
     have zm:=BG.Bw
     clear zc BG
     go_wp2_with (at_builtin;go_must (refine wpList_append_own_at _ rfl _ _ 23 rfl w2.heap.size 25 i0 _ 5 64 Tryz.underlying23 hi0 hi1 hi2 hi3 rfl (by decide) (.slice sp i sc) i (bE (fq items)) rfl hrow ⟨V.heap.size,0,none⟩ 1 1 (ah.cells (.slice none 0 0)) rfl rfl (pg V ah (.slice none 0 0) _) (pq _ _ _ _) hmx hmb zm ?_;intro v' w6 hown6 gJ qH qI))
     rw [←uP.out] at hown6
     have YI:Hid (fI w2.heap.size 25 w2 (items++[(ah,.slice none 0 0,[.slice none 0 0])]) v' w6):=zl.out.push (x:=(ah,.slice none 0 0,[.slice none 0 0])) (lo:=V.heap.size) iq (OL.nil _ _) (ku.none _ _) (aM.one _) (fun u hu b hb=>(HPV.out.blk u hu b hb).2) (fun b hb=>(HPV.out.iL hb).2) HPV.out.Bw hown6 gJ qI
     have YJ:Hid (bC (items++[((ah,.slice none 0 0,[.slice none 0 0]):gp)])=(List.zipWith (aT (ai n)) fs l).take (i+1)):=by
      show bC _=_
      rw [vO xJ.out HXI.out,HIP.out,←HT.out];simp [bC]
     clear hown6 gJ qH qI hrow zm
     go_roundw
     case rel=>exact ⟨i+1,_,by go_num,by omega,YJ.out,YI.out⟩
     case measure=>simp [intOf];omega
    |false=>
     have HIP:Hid (aT (ai n) f x=okV (ai n f x)):=if_neg (by rintro (h|h);exact hk h;rw [Qo.out] at h;cases h)
     have hwt:bF f x=true:=(HRD.out i f x xJ.out HXI.out).elim (fun h=>absurd h hk) (fun h=>h.elim (fun h=>by rw [Qo.out] at h;cases h) id)
     have oz:Hid (Below wr.heap.size wr V):=NL.out.trans (HWV.out.mono (by omega))
     have hzv:=oz.out.size
     have YM:=HWV.out.size
     have gL:Hid (∀ v,Below V.heap.size V v→(Instr.loadAt 121 (.pointer (some ⟨fb,jX+i*9,none⟩))).run Tryz.prog v= .ok (jJ f (kv)) v):=fun v h=>(YH.out v (HWV.out.trans (h.mono YM))).1
     have BN:Hid (∀ v,Below V.heap.size V v→(Instr.loadAt 25 (.pointer (some ⟨wr.heap.size,0,none⟩))).run Tryz.prog v= .ok (x.agg (.slice xq x.list.length xd)) v):=fun v h=>(U9.out v (HWV.out.trans (h.mono YM))).1
     have BM:Hid (∀ v,Below V.heap.size V v→eF v wr.heap.size (x.cells (.slice xq x.list.length xd))):=fun v h=>aff.out.below (HWV.out.trans (h.mono YM)) (by omega)
     have HXV:Hid (∀ v,Below V.heap.size V v→Env v∧bR B v N (.slice xq x.list.length xd) x.list∧B≤v.heap.size):=fun v h=>
      ⟨HEb.out.below (HWV.out.trans (h.mono YM)),U8.out.below ((HWV.out.trans (h.mono YM)).mono (by have:=HB2.out.size;omega)),by have:=HB2.out.size;have:=h.size;omega⟩
     have ada:(nodes x+13)*2^n≤800000000:=Nat.le_trans (Nat.mul_le_mul_right _ (Nat.add_le_add_right hnx 13)) o7.out
     clear YH U9 YK HEb Nf
     by_cases h102:f.type=102
     ·have VK:Hid (JD f= .func (.func 122) #[] #[]):=if_pos h102
      have uQ:Hid (∀ v,Below V.heap.size V v→Calls Tryz.prog 122 #[x.agg (.slice xq x.list.length xd)] v fun r w'=>bG (ai n f x) v r w'):=fun v h=>
       HRC.out B N f x _ v (HXV.out v h).1 YG.out (HXV.out v h).2.1 (HXV.out v h).2.2 h102 (Nat.lt_of_lt_of_le (nk HFS.out (List.mem_of_getElem? xJ.out) h102 hwt) Fx) ada
      clear h102 hwt ada
      go_wp2
      have zi:=gL.out V.drew (Below.refl _ _).drew
      have AO:=BN.out V.drew (Below.refl _ _).drew
      go_region_with
       ((first
         |(go_at_call 96
           refine (dD f kv _).mono ?_
           rintro r w5 ⟨rfl,cB⟩
           have hb5:Below V.heap.size V.drew w5:=cB
           clear cB
           have EP:=gL.out w5 ((Below.refl _ _).drew.trans hb5)
           have ER:=BN.out w5 ((Below.refl _ _).drew.trans hb5)
           rw [VK.out])
         |(go_at_call 122
           go_must (
            refine (uQ.out w5 ((Below.refl _ _).drew.trans hb5)).mono ?_
            rintro r w6 bQ
            obtain ⟨hb6,q6,d6,us,e6,rfl,yf,yo,yk,ya⟩:=bQ.get
            have x6:=BM.out w6 (((Below.refl _ _).drew.trans hb5).trans (hb6.mono hb5.size))
            have kL:=aD (t:=okV (ai n f x)) (a:=q6) (n:=(okV (ai n f x)).list.length) (c:=d6) (x6.part (o:=0) (n:=5) (Nat.le_refl _))
            have y6:=x6.all (vs:=(okV (ai n f x)).cells (.slice q6 (okV (ai n f x)).list.length d6)) rfl
            have bk6:Below wr.heap.size V (w6.setCells wr.heap.size 0 ((okV (ai n f x)).cells (.slice q6 (okV (ai n f x)).list.length d6))):=((((Below.refl _ _).drew.trans hb5).trans (hb6.mono hb5.size)).mono (by omega)).trans (au (Nat.le_refl _) _ _)
            have yo6:OL (w6.setCells wr.heap.size 0 ((okV (ai n f x)).cells (.slice q6 (okV (ai n f x)).list.length d6))) LV (.slice q6 (okV (ai n f x)).list.length d6) (okV (ai n f x)).list us:=yo.heap (by rw [aC];exact Nat.le_refl _) fun u hu b hb=>aA (by have:=yk u hu b hb;have:V.heap.size≤w5.heap.size:=hb5.size;omega) _ _
            have yk6:ku V.heap.size (w6.setCells wr.heap.size 0 ((okV (ai n f x)).cells (.slice q6 (okV (ai n f x)).list.length d6))).heap.size us:=by rw [aC];exact yk.mono hb5.size (Nat.le_refl _)
            obtain ⟨X6,BO⟩:∃ X6,w6.setCells wr.heap.size 0 ((okV (ai n f x)).cells (.slice q6 (okV (ai n f x)).list.length d6))=X6:=⟨_,rfl⟩
            rw [BO] at kL y6 bk6 yo6 yk6
            have ld6:=ag y6.1
            have YN:Hid ((okV (ai n f x)).bD∧OL X6 LV (.slice q6 (okV (ai n f x)).list.length d6) (okV (ai n f x)).list us∧ku V.heap.size X6.heap.size us∧aM us∧Below wr.heap.size V X6):=⟨yf,yo6,yk6,ya,bk6⟩
            clear BO yo yk ya yf yo6 yk6 bk6 x6 y6 bQ))))
      all_goals
       have YO:=gK.out.keep ((oz.out.trans YN.out.2.2.2.2).mono (Nat.le_refl _))
       have zc:Below X6.heap.size X6 (X6.alloc (.cells #[.int .i64 (okV (ai n f x)).kind,.int .u64 (okV (ai n f x)).num,.string (okV (ai n f x)).text,.slice q6 (okV (ai n f x)).list.length d6,.int .i64 (okV (ai n f x)).elem] 25)):=(Below.refl _ _).alloc (Nat.le_refl _) _
       have zl:=ajd (YO.keep zc)
       have hrow:=(YO.keep zc).row;rw [uP.out] at hrow
       have zm:=(YO.keep zc).Bw
       have Qp:=ajd YO
       have HZ:=ajd zc
       clear zc YO
       go_wp2_with (at_builtin;go_must (refine wpList_append_own_at _ rfl _ _ 23 rfl w2.heap.size 25 i0 _ 5 64 Tryz.underlying23 hi0 hi1 hi2 hi3 rfl (by decide) (.slice sp i sc) i (bE (fq items)) rfl hrow ⟨X6.heap.size,0,none⟩ 1 1 ((okV (ai n f x)).cells (.slice q6 (okV (ai n f x)).list.length d6)) rfl rfl (pg X6 _ _ _) (pq _ _ _ _) hmx hmb zm ?_;intro v' w7 uR oC Ng Nh))
       rw [←uP.out] at uR
       have HP7:Hid (fI w2.heap.size 25 w2 (items++[(okV (ai n f x),.slice q6 (okV (ai n f x)).list.length d6,us)]) v' w7):=zl.out.push (x:=(okV (ai n f x),.slice q6 (okV (ai n f x)).list.length d6,us)) (lo:=V.heap.size) YN.out.1 (YN.out.2.1.below HZ.out) (YN.out.2.2.1.mono (Nat.le_refl _) HZ.out.size) YN.out.2.2.2.1 (fun u hu b hb=>by have:=(gK.out.blk u hu b hb).2;have:=oz.out.size;omega) (fun b hb=>by have:=(gK.out.iL hb).2;have:=oz.out.size;omega) (by have:=gK.out.Bw;have:=oz.out.size;omega) uR oC Nh
       have HT7:Hid (bC (items++[((okV (ai n f x),.slice q6 (okV (ai n f x)).list.length d6,us):gp)])=(List.zipWith (aT (ai n)) fs l).take (i+1)):=by
        show bC _=_
        rw [vO xJ.out HXI.out,HIP.out,←HT.out];simp [bC]
       clear uR oC Ng Nh hrow zm
       go_roundw
       case rel=>exact ⟨i+1,_,by go_num,by omega,HT7.out,HP7.out⟩
       case measure=>simp [intOf];omega
     ·have VK:Hid (JD f= .func (.func 123) #[] #[]):=if_neg h102
      have uQ:Hid (∀ v,Below V.heap.size V v→Calls Tryz.prog 123 #[x.agg (.slice xq x.list.length xd)] v fun r w'=>bG (ai n f x) v r w'):=fun v h=>by
       rw [aV n f x h102]
       exact uO (N:=N) (B:=B) x _ v YG.out (HXV.out v h).2.1 (HXV.out v h).2.2 (by omega)
      clear h102 hwt ada
      go_wp2
      have zi:=gL.out V.drew (Below.refl _ _).drew
      have AO:=BN.out V.drew (Below.refl _ _).drew
      go_region_with
       ((first
         |(go_at_call 96
           refine (dD f kv _).mono ?_
           rintro r w5 ⟨rfl,cB⟩
           have hb5:Below V.heap.size V.drew w5:=cB
           clear cB
           have EP:=gL.out w5 ((Below.refl _ _).drew.trans hb5)
           have ER:=BN.out w5 ((Below.refl _ _).drew.trans hb5)
           rw [VK.out])
         |(go_at_call 123
           go_must (
            refine (uQ.out w5 ((Below.refl _ _).drew.trans hb5)).mono ?_
            rintro r w6 bQ
            obtain ⟨hb6,q6,d6,us,e6,rfl,yf,yo,yk,ya⟩:=bQ.get
            have x6:=BM.out w6 (((Below.refl _ _).drew.trans hb5).trans (hb6.mono hb5.size))
            have kL:=aD (t:=okV (ai n f x)) (a:=q6) (n:=(okV (ai n f x)).list.length) (c:=d6) (x6.part (o:=0) (n:=5) (Nat.le_refl _))
            have y6:=x6.all (vs:=(okV (ai n f x)).cells (.slice q6 (okV (ai n f x)).list.length d6)) rfl
            have bk6:Below wr.heap.size V (w6.setCells wr.heap.size 0 ((okV (ai n f x)).cells (.slice q6 (okV (ai n f x)).list.length d6))):=((((Below.refl _ _).drew.trans hb5).trans (hb6.mono hb5.size)).mono (by omega)).trans (au (Nat.le_refl _) _ _)
            have yo6:OL (w6.setCells wr.heap.size 0 ((okV (ai n f x)).cells (.slice q6 (okV (ai n f x)).list.length d6))) LV (.slice q6 (okV (ai n f x)).list.length d6) (okV (ai n f x)).list us:=yo.heap (by rw [aC];exact Nat.le_refl _) fun u hu b hb=>aA (by have:=yk u hu b hb;have:V.heap.size≤w5.heap.size:=hb5.size;omega) _ _
            have yk6:ku V.heap.size (w6.setCells wr.heap.size 0 ((okV (ai n f x)).cells (.slice q6 (okV (ai n f x)).list.length d6))).heap.size us:=by rw [aC];exact yk.mono hb5.size (Nat.le_refl _)
            obtain ⟨X6,BO⟩:∃ X6,w6.setCells wr.heap.size 0 ((okV (ai n f x)).cells (.slice q6 (okV (ai n f x)).list.length d6))=X6:=⟨_,rfl⟩
            rw [BO] at kL y6 bk6 yo6 yk6
            have ld6:=ag y6.1
            have YN:Hid ((okV (ai n f x)).bD∧OL X6 LV (.slice q6 (okV (ai n f x)).list.length d6) (okV (ai n f x)).list us∧ku V.heap.size X6.heap.size us∧aM us∧Below wr.heap.size V X6):=⟨yf,yo6,yk6,ya,bk6⟩
            clear BO yo yk ya yf yo6 yk6 bk6 x6 y6 bQ))))
      all_goals
       have YO:=gK.out.keep ((oz.out.trans YN.out.2.2.2.2).mono (Nat.le_refl _))
       have zc:Below X6.heap.size X6 (X6.alloc (.cells #[.int .i64 (okV (ai n f x)).kind,.int .u64 (okV (ai n f x)).num,.string (okV (ai n f x)).text,.slice q6 (okV (ai n f x)).list.length d6,.int .i64 (okV (ai n f x)).elem] 25)):=(Below.refl _ _).alloc (Nat.le_refl _) _
       have zl:=ajd (YO.keep zc)
       have hrow:=(YO.keep zc).row;rw [uP.out] at hrow
       have zm:=(YO.keep zc).Bw
       have Qp:=ajd YO
       have HZ:=ajd zc
       clear zc YO
       go_wp2_with (at_builtin;go_must (refine wpList_append_own_at _ rfl _ _ 23 rfl w2.heap.size 25 i0 _ 5 64 Tryz.underlying23 hi0 hi1 hi2 hi3 rfl (by decide) (.slice sp i sc) i (bE (fq items)) rfl hrow ⟨X6.heap.size,0,none⟩ 1 1 ((okV (ai n f x)).cells (.slice q6 (okV (ai n f x)).list.length d6)) rfl rfl (pg X6 _ _ _) (pq _ _ _ _) hmx hmb zm ?_;intro v' w7 uR oC Ng Nh))
       rw [←uP.out] at uR
       have HP7:Hid (fI w2.heap.size 25 w2 (items++[(okV (ai n f x),.slice q6 (okV (ai n f x)).list.length d6,us)]) v' w7):=zl.out.push (x:=(okV (ai n f x),.slice q6 (okV (ai n f x)).list.length d6,us)) (lo:=V.heap.size) YN.out.1 (YN.out.2.1.below HZ.out) (YN.out.2.2.1.mono (Nat.le_refl _) HZ.out.size) YN.out.2.2.2.1 (fun u hu b hb=>by have:=(gK.out.blk u hu b hb).2;have:=oz.out.size;omega) (fun b hb=>by have:=(gK.out.iL hb).2;have:=oz.out.size;omega) (by have:=gK.out.Bw;have:=oz.out.size;omega) uR oC Nh
       have HT7:Hid (bC (items++[((okV (ai n f x),.slice q6 (okV (ai n f x)).list.length d6,us):gp)])=(List.zipWith (aT (ai n)) fs l).take (i+1)):=by
        show bC _=_
        rw [vO xJ.out HXI.out,HIP.out,←HT.out];simp [bC]
       clear uR oC Ng Nh hrow zm
       go_roundw
       case rel=>exact ⟨i+1,_,by go_num,by omega,HT7.out,HP7.out⟩
       case measure=>simp [intOf];omega
  ·obtain rfl:i=m:=by omega
   have HT':Hid (bC items=List.zipWith (aT (ai n)) fs l):=by
    have h1:=Hm.out;have h2:=Zz.out
    exact HT.out.trans (List.take_of_length_le (by rw [List.length_zipWith];omega))
   have hil:items.length=i:=by
    have:=congrArg List.length HT'.out
    simp only [bC,List.length_map,List.length_zipWith] at this
    have h1:=Hm.out;have h2:=Zz.out
    omega
   obtain ⟨sp0,sc0,rfl⟩:=gK.out.form
   rw [hil] at gK ⊢
   have HPQ:Hid (fI w2.heap.size 25 w2 (items.take i) (.slice sp0 i sc0) wr):=by rw [←hil,List.take_length,hil];exact gK.out
   have HKZ:Hid (∀ (j:Nat) (x:gp),i≤j→items[j]? =some x→x.1.kind=0):=fun j x hj hx=>by have:=(List.getElem?_eq_some_iff.1 hx).1;omega
   have ES:=ajd hil
   clear HT hi gK hlt hil
   go_wp2
   have hnT:Hid (aj (eT (List.zipWith (aT (ai n)) fs l))≤100000000000):=by
    show _≤_
    have h1:=Ou (Wq n) k l
    have h2:=lS k (eT (List.zipWith (aT (ai n)) fs l))
    have h3:gN (ai n) k l=fK k (eT (List.zipWith (aT (ai n)) fs l)):=by unfold gN;rw [HFS.out];rfl
    rw [h3,h2] at h1
    omega
   go_loopw [5] (fun sv wq=>∃ (q:Nat) (sp:Option Addr) (sc:Nat),sv= .slice sp q sc∧q≤i∧Hid (∀ (j:Nat) (x:gp),q≤j→items[j]? =some x→x.1.kind=0)∧Hid (fI w2.heap.size 25 w2 (items.take q) sv wq)) (fun sv _=>match sv with| .slice _ q _=>q|_=>0)
   case atStart=>exact ⟨i,sp0,sc0,rfl,Nat.le_refl _,HKZ.out,HPQ.out⟩
   case round=>
    obtain ⟨q,spq,YP,rfl,hq,HKQ,jh⟩:=hrel
    have hqm:q≤maxLen:=by unfold maxLen;omega
    by_cases hq0:q=0
    ·subst hq0
     have HEX:Hid (0=0∨∃ x,(bC items)[0-1]? =some x∧x.kind≠0):= .inl rfl
     have Qq:Hid ((items.take 0).length=0):=by show _=0;rw [List.length_take];have:=ES.out;omega
     have HTR:Hid (bC (items.take 0)=eT (List.zipWith (aT (ai n)) fs l)):=by
      show _=_
      rw [←HT'.out,qX (bC items) 0 (by show 0≤(bC items).length;unfold bC;rw [List.length_map];have:=ES.out;omega) (fun j x hj hx=>by
       unfold bC at hx;rw [List.getElem?_map] at hx
       obtain ⟨y,hy,rfl⟩:=Option.map_eq_some_iff.1 hx
       exact HKQ.out j y hj hy) HEX.out,bC,bC,List.map_take]
     have HX1:Hid (eF wr w.heap.size [.int .i64 k,.slice p i c]):=xI.out.below jh.out.below (by omega)
     have HLK:Hid (∀ v,Below wr.heap.size wr v→(Instr.loadAt 3 (.pointer (some ⟨w.heap.size,0,none⟩))).run Tryz.prog v= .ok (.int .i64 k) v):=fun v h=>aG ((HX1.out.below h (by have:=jh.out.Bw;omega)).cell (j:=0) rfl)
     have adj:Hid (∀ v,Below wr.heap.size wr v→eF v (w.heap.size+1) (ah.cells (.slice none 0 0))):=fun v h=>(Au.out.below jh.out.below (by omega)).below h (by have:=jh.out.Bw;omega)
     have HCL:Hid (∀ v,Below wr.heap.size wr v→Calls Tryz.prog 97 #[.slice spq 0 YP] v fun e w'=>∃ v',e= .returned v'∧w'.ownsRow v.heap.size 25 5 v' (items.take 0).length (bE (fq (items.take 0)))∧Below v.heap.size v w'):=fun v h=>by
      have hv:=(jh.out.keep h).view
      have hl:=xD (c:=YP) v hv.2 (by rw [qW,Qq.out];have:=ES.out;omega)
      rw [qW,Qq.out] at hl
      rw [Qq.out]
      exact hl
     go_wp2
     have zi:=HLK.out wr.drew (Below.refl _ _).drew
     have hcv:IntKind.u64.wrap k=k:=by rw [IntKind.wrap_u64];omega
     go_region_with
      ((go_at_call 97
        go_must (
        refine (HCL.out wr.drew (Below.refl _ _).drew).mono ?_
        rintro r w5 ⟨v5,rfl,uS,cB⟩
        have hb5:Below wr.heap.size wr w5:=(Below.refl _ _).drew.trans cB
        clear cB
        have uS:w5.ownsRow wr.heap.size 25 5 v5 (items.take 0).length (bE (fq (items.take 0))):=uS
        have AO:=HLK.out w5 hb5
        obtain ⟨p5,c5,e5⟩:=KQ uS
        rw [Qq.out] at e5
        subst e5
        have oH:=hb5.size
        have zb:Below wr.heap.size wr (w5.alloc (.cells #[.int .i64 5,.int .u64 k,.string ⟨#[]⟩,.slice none 0 0,.int .i64 0,.int .i64 21,.int .u64 0,.string ⟨#[]⟩,.slice p5 0 c5,.int .i64 0] 25)):=hb5.trans ((Below.refl _ _).alloc oH _)
        have x6:=adj.out _ zb
        have kL:=aD (t:=fK k []) (a:=some ⟨w5.heap.size,0,none⟩) (n:=2) (c:=2) (x6.part (o:=0) (n:=5) (Nat.le_refl _))
        have y6:=x6.all (vs:=(fK k []).cells (.slice (some ⟨w5.heap.size,0,none⟩) 2 2)) rfl
        obtain ⟨X6,BO⟩:∃ X6,(w5.alloc (.cells #[.int .i64 5,.int .u64 k,.string ⟨#[]⟩,.slice none 0 0,.int .i64 0,.int .i64 21,.int .u64 0,.string ⟨#[]⟩,.slice p5 0 c5,.int .i64 0] 25)).setCells (w.heap.size+1) 0 ((fK k []).cells (.slice (some ⟨w5.heap.size,0,none⟩) 2 2))=X6:=⟨_,rfl⟩
        have hend:=KR jh.out hb5 uS (by rw [Qq.out];have:=ES.out;omega) hkb (by rw [HTR.out];exact hnT.out) (by omega) rfl BO
        have hbel:Below w.heap.size w X6:=by
         rw [←BO]
         exact ((HB2.out.trans (jh.out.below.mono (by omega))).trans (zb.mono (by have:=jh.out.Bw;omega))).trans (au (by omega) _ _)
        rw [BO] at kL y6
        have iJ:=ajd (bB y6.1)
        have ET:=ajd hend
        have Qr:=ajd hbel
        replace kL:(Instr.storeAt 25 (.pointer (some ⟨w.heap.size+1,0,none⟩)) (.agg #[.int .i64 24,.int .u64 0,.string ⟨#[]⟩,.slice (some ⟨w5.heap.size,0,none⟩) 2 2,.int .i64 0])).run Tryz.prog (w5.alloc (.cells #[.int .i64 5,.int .u64 k,.string ⟨#[]⟩,.slice none 0 0,.int .i64 0,.int .i64 21,.int .u64 0,.string ⟨#[]⟩,.slice p5 0 c5,.int .i64 0] 25))= .ok () X6:=kL
        clear uS hb5 zb x6 y6 hend hbel BO)))
     all_goals
      obtain ⟨us,ho,hbk,hap⟩:=ET.out
      go_wp2
      exact bodyPost_ret_by (dR rfl rfl iJ.out) rfl ⟨_,us,by rw [HR.out];rfl,by rw [HR.out,←HTR.out];exact ho,hbk.mono (by omega) (Nat.le_refl _),hap,Qr.out⟩
    ·obtain ⟨q,rfl⟩:∃ q',q=q'+1:=⟨q-1,by omega⟩
     obtain ⟨x,hx⟩:∃ x,items[q]? =some x:=⟨_,List.getElem?_eq_getElem (by have:=ES.out;omega)⟩
     have hxq:(items.take (q+1))[q]? =some x:=by rw [List.getElem?_take_of_lt (by omega)];exact hx
     obtain ⟨g,cc,e,ha⟩:=jh.out.at hxq
     simp only [Value.slice.injEq] at e
     obtain ⟨rfl, -, -⟩:=e
     have hq1:(0:Int)<((q+1:Nat):Int):=by omega
     have l7:=aG ha.kind
     have hqs:IntKind.i64.wrap ((q:Int)+1-1)=(q:Int):=by rw [IntKind.wrap_i64];omega
     have ah8:((q:Int)+1).toNat=q+1:=by omega
     have hcq:q≤YP:=by have:=jh.out.cap;omega
     clear ha hxq
     by_cases hk0:x.1.kind=0
     ·have YQ:Hid (∀ (j:Nat) (y:gp),q≤j→items[j]? =some y→y.1.kind=0):=fun j y hj hy=>by
       rcases Nat.lt_or_ge q j with h|h
       ·exact HKQ.out j y h hy
       ·obtain rfl:q=j:=by omega
        rw [hx] at hy;cases hy;exact hk0
      have HPN:Hid (fI w2.heap.size 25 w2 (items.take q) (.slice (some ⟨g,0,none⟩) q YP) wr):=by
       have:=jh.out.cut (m:=q) (by omega)
       rwa [List.take_take,Nat.min_eq_left (by omega)] at this
      rw [hk0] at l7
      clear hx hk0
      go_wp2
      exact ⟨⟨q,_,_,rfl,by omega,YQ.out,HPN.out⟩,by simp⟩
     ·have HEX:Hid (q+1=0∨∃ x,(bC items)[q+1-1]? =some x∧x.kind≠0):= .inr ⟨x.1,by show (bC items)[q]? =_;unfold bC;rw [List.getElem?_map,hx];rfl,hk0⟩
      have hkk:(x.1.kind==0)=false:=by simp [hk0]
      clear hx
      have Qq:Hid ((items.take (q+1)).length=(q+1)):=by show _=(q+1);rw [List.length_take];have:=ES.out;omega
      have HTR:Hid (bC (items.take (q+1))=eT (List.zipWith (aT (ai n)) fs l)):=by
       show _=_
       rw [←HT'.out,qX (bC items) (q+1) (by show (q+1)≤(bC items).length;unfold bC;rw [List.length_map];have:=ES.out;omega) (fun j x hj hx=>by
        unfold bC at hx;rw [List.getElem?_map] at hx
        obtain ⟨y,hy,rfl⟩:=Option.map_eq_some_iff.1 hx
        exact HKQ.out j y hj hy) HEX.out,bC,bC,List.map_take]
      have HX1:Hid (eF wr w.heap.size [.int .i64 k,.slice p i c]):=xI.out.below jh.out.below (by omega)
      have HLK:Hid (∀ v,Below wr.heap.size wr v→(Instr.loadAt 3 (.pointer (some ⟨w.heap.size,0,none⟩))).run Tryz.prog v= .ok (.int .i64 k) v):=fun v h=>aG ((HX1.out.below h (by have:=jh.out.Bw;omega)).cell (j:=0) rfl)
      have adj:Hid (∀ v,Below wr.heap.size wr v→eF v (w.heap.size+1) (ah.cells (.slice none 0 0))):=fun v h=>(Au.out.below jh.out.below (by omega)).below h (by have:=jh.out.Bw;omega)
      have HCL:Hid (∀ v,Below wr.heap.size wr v→Calls Tryz.prog 97 #[.slice (some ⟨g,0,none⟩) (q+1) YP] v fun e w'=>∃ v',e= .returned v'∧w'.ownsRow v.heap.size 25 5 v' (items.take (q+1)).length (bE (fq (items.take (q+1))))∧Below v.heap.size v w'):=fun v h=>by
       have hv:=(jh.out.keep h).view
       have hl:=xD (c:=YP) v hv.2 (by rw [qW,Qq.out];have:=ES.out;omega)
       rw [qW,Qq.out] at hl
       rw [Qq.out]
       exact hl
      go_wp2
      have zi:=HLK.out wr.drew (Below.refl _ _).drew
      have hcv:IntKind.u64.wrap k=k:=by rw [IntKind.wrap_u64];omega
      go_region_with
       ((go_at_call 97
         go_must (
         refine (HCL.out wr.drew (Below.refl _ _).drew).mono ?_
         rintro r w5 ⟨v5,rfl,uS,cB⟩
         have hb5:Below wr.heap.size wr w5:=(Below.refl _ _).drew.trans cB
         clear cB
         have uS:w5.ownsRow wr.heap.size 25 5 v5 (items.take (q+1)).length (bE (fq (items.take (q+1)))):=uS
         have AO:=HLK.out w5 hb5
         obtain ⟨p5,c5,e5⟩:=KQ uS
         rw [Qq.out] at e5
         subst e5
         have oH:=hb5.size
         have zb:Below wr.heap.size wr (w5.alloc (.cells #[.int .i64 5,.int .u64 k,.string ⟨#[]⟩,.slice none 0 0,.int .i64 0,.int .i64 21,.int .u64 0,.string ⟨#[]⟩,.slice p5 (q+1) c5,.int .i64 0] 25)):=hb5.trans ((Below.refl _ _).alloc oH _)
         have x6:=adj.out _ zb
         have kL:=aD (t:=fK k []) (a:=some ⟨w5.heap.size,0,none⟩) (n:=2) (c:=2) (x6.part (o:=0) (n:=5) (Nat.le_refl _))
         have y6:=x6.all (vs:=(fK k []).cells (.slice (some ⟨w5.heap.size,0,none⟩) 2 2)) rfl
         obtain ⟨X6,BO⟩:∃ X6,(w5.alloc (.cells #[.int .i64 5,.int .u64 k,.string ⟨#[]⟩,.slice none 0 0,.int .i64 0,.int .i64 21,.int .u64 0,.string ⟨#[]⟩,.slice p5 (q+1) c5,.int .i64 0] 25)).setCells (w.heap.size+1) 0 ((fK k []).cells (.slice (some ⟨w5.heap.size,0,none⟩) 2 2))=X6:=⟨_,rfl⟩
         have hend:=KR jh.out hb5 uS (by rw [Qq.out];have:=ES.out;omega) hkb (by rw [HTR.out];exact hnT.out) (by omega) rfl BO
         have hbel:Below w.heap.size w X6:=by
          rw [←BO]
          exact ((HB2.out.trans (jh.out.below.mono (by omega))).trans (zb.mono (by have:=jh.out.Bw;omega))).trans (au (by omega) _ _)
         rw [BO] at kL y6
         have iJ:=ajd (bB y6.1)
         have ET:=ajd hend
         have Qr:=ajd hbel
         replace kL:(Instr.storeAt 25 (.pointer (some ⟨w.heap.size+1,0,none⟩)) (.agg #[.int .i64 24,.int .u64 0,.string ⟨#[]⟩,.slice (some ⟨w5.heap.size,0,none⟩) 2 2,.int .i64 0])).run Tryz.prog (w5.alloc (.cells #[.int .i64 5,.int .u64 k,.string ⟨#[]⟩,.slice none 0 0,.int .i64 0,.int .i64 21,.int .u64 0,.string ⟨#[]⟩,.slice p5 (q+1) c5,.int .i64 0] 25))= .ok () X6:=kL
         clear uS hb5 zb x6 y6 hend hbel BO)))
      all_goals
       obtain ⟨us,ho,hbk,hap⟩:=ET.out
       go_wp2
       exact bodyPost_ret_by (dR rfl rfl iJ.out) rfl ⟨_,us,by rw [HR.out];rfl,by rw [HR.out,←HTR.out];exact ho,hbk.mono (by omega) (Nat.le_refl _),hap,Qr.out⟩
end Go.Proofs.YtmldhjoolebjoaaGreatDoor.Va
