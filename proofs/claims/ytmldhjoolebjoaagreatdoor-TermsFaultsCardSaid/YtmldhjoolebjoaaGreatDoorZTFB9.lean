/-
  The texts Q5 Q6 Y5 Y6 Y7 Y9 BG BM BH L0 of this claim, one behind the other.
-/
import Derived.Test.YtmldhjoolebjoaaGreatDoorZTFB8
import Derived.Test.YtmldhjoolebjoaaGreatDoorZTFB6
import Derived.Test.YtmldhjoolebjoaaGreatDoorZTFA1
import Derived.Test.YtmldhjoolebjoaaGreatDoorZTFB0
import Derived.Test.YtmldhjoolebjoaaGreatDoorZTFA0
import Derived.Laws.NewBlocks
set_option maxHeartbeats 40000000
set_option maxRecDepth 100000
namespace Go.Proofs.YtmldhjoolebjoaaGreatDoor.Va
open Go Go.RowKit Nu Uc Fd Go.Proofs.YtmldhjoolebjoaaGreatDoor.Nm
attribute [-go_sem] Go.Instr.loadAt
theorem Zh {v:World} {b o:Nat} {u:Value} (p:Option Addr) (n c:Nat) (hc:v.cell? ⟨b,o,none⟩=some u) (hf:v.frozen? ⟨b,o,none⟩=false):(Instr.storeAt 23 (.pointer (some ⟨b,o,none⟩)) (.slice p n c)).run Tryz.prog v= .ok () (v.setCell ⟨b,o,none⟩ (.slice p n c)):=by
 have:=Tryz.underlying23
 have:=Tryz.sizeOf23
 go_simp
attribute [-go_sem] Go.Instr.storeAt
theorem Vv {v:World} {b:Nat} {k u:Value} (x:eF v b [k,u]) (p:Option Addr) (n c:Nat):∃ X,(Instr.storeAt 23 (.pointer (some ⟨b,1,none⟩)) (.slice p n c)).run Tryz.prog v= .ok () X∧eF X b [k,.slice p n c]∧v.grownBy X (some b)∧X.heap.size=v.heap.size:=by
 have h:=Zh p n c (x.cell (j:=1) rfl) (x.o9 (j:=1) (show 1<2 by decide))
 exact ⟨v.setCells b 1 [.slice p n c],h,x.set (vs:=[.slice p n c]) (o:=1) (show 1+1≤2 by decide) rfl (fun j u hu=>by
  match j,hu with
  |0,hu=>exact hu
  |j+1,hu=>simp at hu) (fun j hj=>by
  match j,hj with
  |0,_=>rfl
  |1,hj=>simp at hj
  |j+2,_=>rfl),gz b _ _ v,aC ..⟩
theorem Zi {n:Nat} {f:FT} {y:VT} {e:Int} (h:bA (ai n) f y= .error e):e≠0:=by
 unfold bA at h
 split at h
 ·split at h
  ·cases h;decide
  ·cases h
 ·split at h
  ·cases h
  ·split at h
   ·exact kU n f y e h
   ·cases h;decide
theorem Fb {n:Nat} (hU:∀ m,n=m+1→RUn m∧RPk m):RUn n:=by
 intro P N t lv w FD hE hft hl Fx hnd
 have YX:(nodes t+13)*2^n≤800000000:=by rw [Nat.pow_succ'] at hnd;have:=Nat.mul_le_mul_left (nodes t+13) (show 2^n≤2*2^n by omega);omega
 have aaU:nodes t≤800000000:=by have:=Nat.le_mul_of_pos_right (nodes t+13) (Nat.two_pow_pos n);omega
 obtain ⟨p,c,rfl⟩:=hl.slice
 obtain ⟨W1,hW1⟩:∃ W1,(w.alloc (.cells #[.int .i64 t.kind,.int .u64 t.num,.string t.text,.slice p t.list.length c,.int .i64 t.elem] 25)).alloc (.cells #[.int .i64 0,.slice none 0 0] 91)=W1:=⟨_,rfl⟩
 obtain ⟨x1,x2,hz1,hb1⟩:=bK (cs:=t.cells (.slice p t.list.length c)) (ds:=[.int .i64 0,.slice none 0 0]) hW1
 have l0:=ag x1.1
 have hl1:bu P W1 N (.slice p t.list.length c) t.list:=hl.below hb1
 have FX:=ajd (xH t (.slice p t.list.length c) W1 hft hl1.vX (Nat.le_refl _) (by omega))
 have U7:=ajd (show ∀ v,Below W1.heap.size W1 v→Calls Tryz.prog 151 #[t.agg (.slice p t.list.length c)] v fun r w'=>r= .returned (lN (kindOf t))∧Below v.heap.size v w' from fun v h=>Hw (N:=N) (B:=v.heap.size) (d:=t) (v:=t.agg (.slice p t.list.length c)) (w:=v) ⟨hft,_,rfl,(hl1.below h).vX⟩ (Nat.le_refl _))
 have X1:=ajd x1
 have X2:=ajd x2
 have HB1:=ajd hb1
 have AJ:=ajd (hE.below hb1)
 have MP:=ajd hl1
 have HU:=ajd hU
 have HP:=ajd FD
 have o7:=ajd YX
 obtain ⟨R,hR⟩:∃ R,Iu n t=R:=⟨_,rfl⟩
 have HR:=ajd hR
 obtain ⟨o,ho⟩:∃ o,kindOf t=o:=⟨_,rfl⟩
 have HO:=ajd ho
 obtain ⟨C,hC⟩:∃ C,aB t 1=C:=⟨_,rfl⟩
 have HC:=ajd hC
 rw [hR]
 rw [ho] at U7 Fx
 rw [hC] at FX
 clear hR ho hl x1 x2 hb1 hE hU hnd hl1 FD hC YX hft
 go_enter Tryz.func103,Tryz.ntmps103
 go_wp2_with (fail)
 clear hW1 l0
 refine FX.out.mono ?_
 rintro r w1 ⟨rfl,hb1⟩
 have adw:=ajd hb1
 have z1:W1.heap.size≤w1.heap.size:=hb1.size
 by_cases hC0:C=0
 case neg=>
  have hcb:(C !=0)=true:=by simp [hC0]
  have HE:Hid (R= .error (0,C)):=by
   show _=_
   rw [←HR.out]
   unfold Iu
   rw [HC.out,if_pos hC0]
  obtain ⟨Xe,hse,hle,_,hbe,zD,_⟩:=bJ (X2.out.below hb1 (by omega)) rfl 0 none 0 0
  have AP:=ajd hle
  have AQ:Hid (Below w.heap.size w Xe):=(HB1.out.trans (hb1.mono (by omega))).trans (hbe.mono (by omega))
  clear hle hbe zD hb1 hC0
  go_wp2
  exact bodyPost_ret_by (aR rfl rfl AP.out rfl rfl) rfl (by rw [HE.out];exact ⟨AQ.out,rfl⟩)
 subst hC0
 have hrr:R=bH (ai n) t:=by
  rw [←HR.out]
  unfold Iu
  rw [HC.out,if_neg (by simp)]
 have HR1:=ajd hrr
 have l0:=ag (X1.out.below hb1 (by omega)).1
 clear hrr hb1 FX
 go_wp2_with (fail)
 clear l0
 refine (U7.out w1 adw.out).mono ?_
 rintro r w2 ⟨rfl,hb2⟩
 have HB2:=ajd (adw.out.trans (hb2.mono z1))
 have z2:=hb2.size
 have rE:=mh (Km o) w2
 unfold gH at rE
 unfold lN
 obtain ⟨kn,hkn⟩:∃ kn,Km o=kn:=⟨_,rfl⟩
 have YQ:=ajd hkn
 rw [hkn] at rE ⊢
 have JF:=ajd rE
 obtain ⟨q,hq⟩:∃ q,o.isSome=q:=⟨_,rfl⟩
 rw [hq]
 have HQS:=ajd hq
 clear hb2 rE hq hkn U7 adw
 go_wp2_with (fail)
 refine JF.out.mono ?_
 rintro r w3 ⟨vf,rfl,hfo,hb3⟩
 have P7:=ajd (HB2.out.trans (hb3.mono (by omega)))
 have EF:=ajd (HB1.out.trans (P7.out.mono (by omega)))
 have hX1:=X1.out.below P7.out (by omega)
 have abn:Hid (eF w3 (w.heap.size+1) [.int .i64 0,.slice none 0 0]):=X2.out.below P7.out (by omega)
 have HE3:=ajd (AJ.out.below P7.out)
 have z3:w2.heap.size≤w3.heap.size:=hb3.size
 clear hb3 HB2 JF
 obtain ⟨of,hof⟩:∃ of,aN kn=of:=⟨_,rfl⟩
 have BP:=ajd hof
 rw [hof] at hfo ⊢
 clear hof
 cases of with
 |none=>
  rcases hfo with ⟨_,rfl⟩|⟨h,_⟩
  ·have HE:Hid (R= .error (0,70)):=by
    show _=_
    rw [HR1.out]
    refine xZ ?_
    rw [HO.out]
    cases o with
    |none=>rfl
    |some k=>have h1:=YQ.out;have h2:=BP.out;rw [←h1] at h2;exact h2
   obtain ⟨Xe,hse,hle,_,hbe,zD,_⟩:=bJ abn.out rfl 0 none 0 0
   have AP:=ajd hle
   have AQ:Hid (Below w.heap.size w Xe):=EF.out.trans (hbe.mono (by omega))
   clear hle hbe zD hX1
   go_wp2
   all_goals
    exact bodyPost_ret_by (aR rfl rfl AP.out rfl rfl) rfl (by rw [HE.out];exact ⟨AQ.out,rfl⟩)
  ·exact absurd rfl h
 |some fs=>
  obtain ⟨k,rfl⟩:∃ k,o=some k:=by
   cases o with
   |none=>
    have h1:=YQ.out;have h2:=BP.out;rw [←h1] at h2;have h3:aN (Km none)=none:=by decide
    rw [h3] at h2;cases h2
   |some k=>exact ⟨k,rfl⟩
  obtain rfl:k=kn:=YQ.out
  obtain rfl:true=q:=HQS.out
  obtain ⟨d,x,Oh⟩:=CW HO.out
  have hRR:=CY (rd:=ai n) HO.out BP.out Oh
  have hRR:R=_:=HR1.out.trans hRR
  have HRR:=ajd hRR
  have hfl:=fP BP.out
  have Vg:Hid (rk k≤n):=Fx
  have hL:=MP.out.below P7.out
  rw [Oh] at hL
  rw [Oh] at hX1
  have hxc:aB x 2=0:=ni HC.out (by rw [Oh];simp)
  have HXC:=ajd hxc
  cases N with
  |zero=>exact hL.elim
  |succ N=>
  rcases hL with ⟨h0,_⟩|⟨b,off,c',hp,_,jy,_,hel⟩
  ·cases h0
  cases hp
  obtain ⟨xf,xlv,JJ,xl⟩:=hel 1 x rfl
  obtain ⟨q1,d1,rfl⟩:=xl.slice
  have e1:off+1*5=off+5:=by omega
  rw [e1] at JJ
  have l1:=aF (hX1.cell (j:=3) rfl)
  have l2:=aG JJ.kind
  have l3:=aF JJ.list
  have U8:=ajd xl
  have hFO:=hfo
  obtain ⟨fp,fc,rfl,hu⟩:=hFO.view
  have Cg:=ajd hfo
  obtain ⟨m,hm⟩:∃ m,fs.length=m:=⟨_,rfl⟩
  have Hm:=ajd hm
  have hnx:aj x.list+1≤nodes t:=by
   have h1:nodes x≤aj t.list:=gY (by rw [Oh];simp)
   have:=aX t
   have:=aX x
   omega
  have HNX:=ajd hnx
  have hgl:x.list.length≤900000000:=by
   have h1:=fZ x.list
   omega
  obtain ⟨gn,hgn⟩:∃ gn,x.list.length=gn:=⟨_,rfl⟩
  have YR:=ajd hgn
  simp only [Option.getD_some,Option.isSome_some] at Cg ⊢
  rw [hm] at Cg hfl ⊢
  rw [hgn] at l3 U8 hgl
  clear hfo hFO hu hm hgn hel hX1 JJ xl hRR Oh hnx hxc Fx
  by_cases JK:x.kind=21
  case neg=>
   have hne:(x.kind !=21)=true:=by simp [JK]
   have HE:Hid (R= .error (0,70)):=HRR.out.trans (if_pos JK)
   obtain ⟨Xe,hse,hle,_,hbe,zD,_⟩:=bJ abn.out rfl 0 none 0 0
   have AP:=ajd hle
   have AQ:Hid (Below w.heap.size w Xe):=EF.out.trans (hbe.mono (by omega))
   clear hle hbe zD
   go_wp2
   exact bodyPost_ret_by (aR rfl rfl AP.out rfl rfl) rfl (by rw [HE.out];exact ⟨AQ.out,rfl⟩)
  have hne:(x.kind !=21)=false:=by simp [JK]
  have YS:=ajd (HRR.out.trans (if_neg (by simp [JK])))
  by_cases hlen:m<gn
  ·have HE:Hid (R= .error (m,71)):=by rw [←Hm.out,←YR.out] at*;exact YS.out.trans (if_pos hlen)
   have hlt:decide ((gn:Int)>(m:Int))=true:=by simp;omega
   obtain ⟨Xe,hse,hle,_,hbe,zD,_⟩:=bJ abn.out rfl 0 none 0 0
   have AP:=ajd hle
   have AQ:Hid (Below w.heap.size w Xe):=EF.out.trans (hbe.mono (by omega))
   clear hle hbe zD
   go_wp2
   exact bodyPost_ret_by (aR rfl rfl AP.out rfl rfl) rfl (by rw [HE.out];exact ⟨AQ.out,rfl⟩)
  have hlt:decide ((gn:Int)>(m:Int))=false:=by simp;omega
  have Nl:=ajd (YS.out.trans (if_neg (by have:=Hm.out;have:=YR.out;omega)))
  obtain ⟨W4,hW4⟩:∃ W4,w3.alloc (.cells #[.int .i64 0,.slice none 0 0] 91)=W4:=⟨_,rfl⟩
  obtain ⟨x4,Qs,hb4⟩:=aH (cs:=[.int .i64 0,.slice none 0 0]) hW4
  obtain ⟨W5,hs5,_,bx5,hb5,oH,_⟩:=bJ x4 rfl k none 0 0
  have h35:Below w3.heap.size w3 W5:=hb4.trans hb5
  obtain ⟨rb,hrb⟩:∃ rb,w3.heap.size=rb:=⟨_,rfl⟩
  rw [hrb] at bx5 hs5
  have hz5':W5.heap.size=rb+1:=by omega
  have NF:=ajd (EF.out.trans (h35.mono (by omega)))
  have aiv:=ajd bx5
  have EX:Hid (∀ v,Below rb W5 v→eF v (w.heap.size+1) [.int .i64 0,.slice none 0 0]):=fun v h=>(abn.out.below h35 (by omega)).below h (by omega)
  have aiw:Hid (∀ v,Below rb W5 v→Env v∧j6 w2.heap.size w3.heap.size v (.slice fp m fc) fs∧bu P v N (.slice q1 gn d1) x.list):=fun v h=>by
   have h3:Below w3.heap.size w3 v:=h35.trans (h.mono (by omega))
   exact ⟨HE3.out.below h3,Cg.out.below h3,U8.out.below h3⟩
  have adt:Hid (mG W5.heap.size 25 (fun b=>P b∨W5.heap.size≤b) W5 [] (.slice none 0 0) W5):=mG.start W5
  obtain ⟨i0,hi0,hi1,hi2,hi3⟩:=info_parts uL
  clear x4 hb4 hb5 h35 bx5 Qs oH
  go_wp2
  clear l1 l2 l3 hW4 hs5
  go_loopw [12] (fun iv wr=>∃ (j:Nat) (items:List (VT×Value)) (sp:Option Addr) (sc:Nat),iv= .int .i64 j∧j≤m∧items.length=j∧Hid (∀ (i:Nat) (f:FT) (z:VT),fs[i]? =some f→(items.map (·.1))[i]? =some z→bA (ai n) f ((x.list[i]?).getD ah)= .ok z)∧Hid (eF wr rb [.int .i64 k,.slice sp j sc])∧Hid (mG W5.heap.size 25 (fun b=>P b∨W5.heap.size≤b) wr items (.slice sp j sc) wr)∧Hid (Below rb W5 wr)) (fun iv _=>m-(intOf iv).toNat)
  case atStart=>exact ⟨0,[],none,0,rfl,Nat.zero_le _,rfl,(by show ∀ (i:Nat) (f:FT) (z:VT),_→_→_;intro i f z _ h;simp at h),aiv.out,adt.out,Below.refl _ _⟩
  case round=>
   obtain ⟨j,items,sp,sc,rfl,hj,hlj,HI,HRB,gK,HWR⟩:=hrel
   by_cases EY:j<m
   ·obtain ⟨f,hf⟩:∃ f,fs[j]? =some f:=⟨_,List.getElem?_eq_getElem (by rw [Hm.out];exact EY)⟩
    have xJ:=ajd hf
    have TG:=gK.out.Bw
    obtain ⟨e1,e2,e3⟩:=aiw.out wr HWR.out
    obtain ⟨qq,dd,e4,hv⟩:=e2.view
    obtain ⟨fb,jX,kv,rfl,ZA,⟨a0,a1,a2,a3,a4,a5,a6,a7,a8⟩,hkv⟩:=hv j f hf
    simp only [Value.slice.injEq] at e4
    obtain ⟨rfl, -, -⟩:=e4
    obtain ⟨kp,kc,rfl,Vd⟩:=hkv.view
    have hcf:Cells wr fb (jX+j*9) (fA f (.slice kp f.kinds.length kc)):=fun j u hu=>by
     match j,hu with
     |0,hu=>cases hu;exact a0
     |1,hu=>cases hu;exact a1
     |2,hu=>cases hu;exact a2
     |3,hu=>cases hu;exact a3
     |4,hu=>cases hu;exact a4
     |5,hu=>cases hu;exact a5
     |6,hu=>cases hu;exact a6
     |7,hu=>cases hu;exact a7
     |8,hu=>cases hu;exact a8
     |j+9,hu=>simp [fA] at hu
    have hj0:(0:Int)≤(j:Int):=by omega
    have hj1:(j:Int)<(m:Int):=by omega
    have gL:Hid (∀ v,Below wr.heap.size wr v→(Instr.loadAt 121 (.pointer (some ⟨fb,jX+j*9,none⟩))).run Tryz.prog v= .ok (jJ f (.slice kp f.kinds.length kc)) v):=fun v h=>eY fun j u hu=>(h.cell (p:=⟨fb,_,none⟩) ZA).trans (hcf j u hu)
    have HKL:Hid (f.kinds.length≤1000):=by
     obtain ⟨e,he,_,h2⟩:=eU BP.out
     have:=(xV e he).2 f (by rw [h2];exact List.mem_of_getElem? hf)
     show _≤_
     omega
    have Ze:=ajd (vN BP.out (List.mem_of_getElem? hf))
    have JO:Hid (∀ v,Below wr.heap.size wr v→Env v∧jq w2.heap.size w3.heap.size v (.slice kp f.kinds.length kc) f.kinds∧w2.heap.size≤v.heap.size):=fun v h=>⟨e1.below h,hkv.below h,by have:=h.size;omega⟩
    have abo:Hid (Below rb W5 wr):=HWR.out
    obtain ⟨Wa,hWa⟩:∃ Wa,wr.alloc (.cells #[.int .i64 0,.int .u64 0,.string ⟨#[]⟩,.slice none 0 0,.int .i64 0] 25)=Wa:=⟨_,rfl⟩
    obtain ⟨xa,hza,hba⟩:=aH (cs:=ah.cells (.slice none 0 0)) hWa
    obtain ⟨Wb,AL,xb,zy,hzb⟩:=fo xa rfl ah none 0 0
    replace AL:(Instr.storeAt 25 (.pointer (some ⟨wr.heap.size,0,none⟩)) (.agg #[.int .i64 0,.int .u64 0,.string ⟨#[]⟩,.slice none 0 0,.int .i64 0])).run Tryz.prog Wa= .ok () Wb:=AL
    have hbb:Below wr.heap.size wr Wb:=hba.trans zy
    have hmx:j+1≤maxLen:=by unfold maxLen;omega
    have hmb:(j+1)*64≤140737488355328:=by omega
    have aix:=ajd e3
    clear hf hv hkv Vd a0 a1 a2 a3 a4 a5 a6 a7 a8 hcf xa hba zy e1 e2 e3
    by_cases hjg:j<gn
    case' pos=>
     obtain ⟨y,hy⟩:∃ y,x.list[j]? =some y:=⟨_,List.getElem?_eq_getElem (by have:=YR.out;omega)⟩
     have HYJ:Hid ((x.list[j]?).getD ah=y):=by show _=_;rw [hy];rfl
     have hLX:=aix.out
     obtain ⟨N2,rfl⟩:∃ N2,N=N2+1:=by
      cases N with
      |zero=>exact hLX.elim
      |succ N=>exact ⟨N,rfl⟩
     rcases hLX with ⟨h0,_⟩|⟨qb,Ve,c2,hp2,_,hqB,_,YU⟩
     ·rw [h0] at hy;simp at hy
     rw [YR.out] at hp2
     cases hp2
     obtain ⟨yf,ylv,yat,yl⟩:=YU j y hy
     obtain ⟨yq,yd,rfl⟩:=yl.slice
     have hj2:decide ((j:Int)<(gn:Int))=true:=by simp;omega
     have hj3:(j:Int)<(gn:Int):=by omega
     have ly:=ag (dW ((yat.below hbb hqB)))
     obtain ⟨V,hsv,yb,adx,hzv⟩:=fo xb rfl y yq y.list.length yd
     have YB:=ajd yb
     have YF:=ajd yf
     obtain ⟨My,hMy⟩:∃ My,N2=My:=⟨_,rfl⟩
     have YL:Hid (bu P V My (.slice yq y.list.length yd) y.list):=by rw [←hMy];exact yl.below (hbb.trans adx)
     have oz:Hid (Below wr.heap.size wr V):=hbb.trans adx
     have HZV:Hid (V.heap.size=wr.heap.size+1∧w.heap.size<V.heap.size):=⟨by omega,by have:=NF.out.size;omega⟩
     have hym:=List.mem_of_getElem? hy
     have HYC:Hid (aB y 1=0):=kT y (d:=3) (by omega) (ni HXC.out hym)
     have HYN:Hid ((nodes y+13)*2^n≤800000000):=Nat.le_trans (Nat.mul_le_mul_right _ (by have:=gY hym;have:=HNX.out;omega)) o7.out
     clear yf yat yl yb adx hzv hy YU hbb xb hym
     go_wp2
     clear hWa AL ly hsv
    case' neg=>
     have HYJ:Hid ((x.list[j]?).getD ah=ah):=by show _=_;rw [List.getElem?_eq_none (by have:=YR.out;omega)];rfl
     have hj2:decide ((j:Int)<(gn:Int))=false:=by simp;omega
     have HYC:Hid (aB ah 1=0):=qR (by omega)
     have HYN:Hid ((nodes ah+13)*2^n≤800000000):=Nat.le_trans (Nat.mul_le_mul_right _ (by rw [lT];have:=HNX.out;omega)) o7.out
     have YB0:=ajd xb
     have YL0:Hid (bu P Wb 1 (.slice none 0 0) ah.list):=bu.nil _ _ _
     have YF0:=ajd iq
     have ady:=ajd hbb
     have adz:Hid (Wb.heap.size=wr.heap.size+1∧w.heap.size<Wb.heap.size):=⟨by omega,by have:=NF.out.size;omega⟩
     clear hbb xb
     go_wp2
     clear hWa AL
     obtain ⟨V,hV⟩:∃ V,Wb=V:=⟨_,rfl⟩
     obtain ⟨y,hy⟩:∃ y,ah=y:=⟨_,rfl⟩
     obtain ⟨yq,hyq⟩:∃ yq:Option Addr,none=yq:=⟨_,rfl⟩
     obtain ⟨yd,hyd⟩:∃ yd:Nat,0=yd:=⟨_,rfl⟩
     obtain ⟨My,hMy⟩:∃ My:Nat,1=My:=⟨_,rfl⟩
     have YB:Hid (eF V wr.heap.size (y.cells (.slice yq y.list.length yd))):=by rw [←hV,←hy,←hyq,←hyd];exact YB0.out
     have YL:Hid (bu P V My (.slice yq y.list.length yd) y.list):=by rw [←hV,←hy,←hyq,←hyd,←hMy];exact YL0.out
     have YF:Hid y.bD:=by rw [←hy];exact YF0.out
     rw [hV] at ady adz ⊢
     have oz:=ady
     have HZV:=adz
     have afS:Hid ((x.list[j]?).getD ah=y):=by show _=_;rw [HYJ.out,hy]
     rw [hy] at HYC HYN
     clear HYJ
     have HYJ:=afS
     clear hV hy hyq hyd hMy YB0 YL0 YF0 ady adz afS
    all_goals
     have Vi:wr.heap.size<V.heap.size:=by have:=HZV.out;omega
     have hD:Below V.heap.size V V.drew:=(Below.refl _ _).drew
     have vV:Below V.heap.size V ((V.alloc (.cells #[.int .i64 0,.int .u64 0,.string ⟨#[]⟩,.slice none 0 0,.int .i64 0] 25)).drew):=((Below.refl _ _).alloc (Nat.le_refl _) _).drew
     obtain ⟨xA0,oJ,_⟩:=aH (w:=V) (cs:=ah.cells (.slice none 0 0)) (T:=25) rfl
     have VN:((V.alloc (.cells #[.int .i64 0,.int .u64 0,.string ⟨#[]⟩,.slice none 0 0,.int .i64 0] 25)).drew).heap.size=V.heap.size+1:=oJ
     have xA:eF ((V.alloc (.cells #[.int .i64 0,.int .u64 0,.string ⟨#[]⟩,.slice none 0 0,.int .i64 0] 25)).drew) V.heap.size (ah.cells (.slice none 0 0)):=xA0.heap rfl
     clear xA0 oJ
     have BN:Hid (∀ v,Below V.heap.size V v→(Instr.loadAt 121 (.pointer (some ⟨fb,jX+j*9,none⟩))).run Tryz.prog v= .ok (jJ f (.slice kp f.kinds.length kc)) v∧(Instr.loadAt 25 (.pointer (some ⟨wr.heap.size,0,none⟩))).run Tryz.prog v= .ok (y.agg (.slice yq y.list.length yd)) v):=fun v h=>
      ⟨gL.out v (oz.out.trans (h.mono (by omega))),ag (YB.out.below h Vi).1⟩
     obtain ⟨a,ha⟩:∃ a,bA (ai n) f y=a:=⟨_,rfl⟩
     have HIT:Hid (∀ v,Below V.heap.size V v→Calls Tryz.prog 152 #[jJ f (.slice kp f.kinds.length kc),y.agg (.slice yq y.list.length yd)] v fun r w'=>bY P a (y.agg (.slice yq y.list.length yd)) v r w'):=fun v h=>by
      have hbv:=oz.out.trans (h.mono (by omega))
      obtain ⟨e1,e2,e3⟩:=JO.out v hbv
      have:=JR (n:=n) (N:=My) (P:=P) HU.out f (.slice kp f.kinds.length kc) y (.slice yq y.list.length yd) v (fun b hb=>by have:=HP.out b hb;have:=EF.out.size;have:=HWR.out.size;have:=hbv.size;omega) e1 e2 HKL.out Ze.out YF.out (YL.out.below h) HYC.out (fun h1 h2=>Nat.lt_of_lt_of_le (nk BP.out (List.mem_of_getElem? xJ.out) h1 h2) Vg.out) HYN.out
      rw [ha] at this
      exact this
     have HAA:=ajd ha
     clear ha
     cases a with
     |error e=>
      go_region_held3 (fun v=>(Instr.loadAt 121 (.pointer (some ⟨fb,jX+j*9,none⟩))).run Tryz.prog v= .ok (jJ f (.slice kp f.kinds.length kc)) v∧(Instr.loadAt 25 (.pointer (some ⟨wr.heap.size,0,none⟩))).run Tryz.prog v= .ok (y.agg (.slice yq y.list.length yd)) v)
       (first
         |with_reducible exact AR
         |with_reducible exact hv7
         |with_reducible exact hv6
         |with_reducible exact BN.out _ vV
         |with_reducible exact BN.out _ hD)
       ((go_at_call 152
         go_must (
         first
          |(refine (HIT.out V.drew hD).mono ?_
            rintro r w6 ⟨lG,bQ⟩
            have hb6:Below V.heap.size V w6:=hD.trans lG
            subst bQ;have JS:=YL.out.below hb6;obtain ⟨M6,hM6⟩:∃ M6,My=M6:=⟨_,rfl⟩;rw [hM6] at JS;replace JS:=JS.weak (Q:=fun b=>P b∨V.heap.size≤b) (fun b hb _=> .inl hb);clear hM6
            have xG:=hb6.size
            obtain ⟨x7,rY,kr⟩:=aH (w:=w6) (cs:=ah.cells (.slice none 0 0)) (T:=25) rfl
            have h7:Below V.heap.size V (w6.alloc (.cells #[.int .i64 0,.int .u64 0,.string ⟨#[]⟩,.slice none 0 0,.int .i64 0] 25)):=hb6.trans (kr.mono xG)
            have hv6:=BN.out _ hb6
            have hv7:=BN.out _ h7
            obtain ⟨X8,iw,x8,pM,VP⟩:=fo x7 rfl y yq y.list.length yd
            have zB:=uW x7 rfl y yq y.list.length yd iw
            have rR:(Instr.storeAt 25 (.pointer (some ⟨w6.heap.size,0,none⟩)) (.agg #[.int .i64 y.kind,.int .u64 y.num,.string y.text,.slice yq y.list.length yd,.int .i64 y.elem])).run Tryz.prog (w6.alloc (.cells #[.int .i64 0,.int .u64 0,.string ⟨#[]⟩,.slice none 0 0,.int .i64 0] 25))= .ok () X8:=iw
            have h8:Below V.heap.size V X8:=h7.trans (pM.mono xG)
            have AR:=BN.out _ h8
            have Sd:=ag x8.1
            have HL8:Hid (bu (fun b=>P b∨V.heap.size≤b) X8 M6 (.slice yq y.list.length yd) y.list):=(((JS.weak (Q:=fun b=>(P b∨V.heap.size≤b)∧b<w6.heap.size) fun b hb hlt=>⟨hb,hlt⟩).below kr).heap (w':=X8) (by omega) fun b hb _=>zB b (by omega)).weak fun b hb _=>hb.1
            have H8:=ajd h8
            clear h8 pM h7 rY kr x7 x8 VP zB hb6 lG JS iw)
          |(refine (HIT.out ((V.alloc (.cells #[.int .i64 0,.int .u64 0,.string ⟨#[]⟩,.slice none 0 0,.int .i64 0] 25)).drew) vV).mono ?_
            rintro r w6 ⟨lG,bQ⟩
            have hb6:Below V.heap.size V w6:=vV.trans (lG.mono vV.size)
            subst bQ;have JS:=YL.out.below hb6;obtain ⟨M6,hM6⟩:∃ M6,My=M6:=⟨_,rfl⟩;rw [hM6] at JS;replace JS:=JS.weak (Q:=fun b=>P b∨V.heap.size+1≤b) (fun b hb _=> .inl hb);clear hM6
            have xG:V.heap.size+1≤w6.heap.size:=by have:=lG.size;omega
            have x7:=xA.below lG (by omega)
            have hv6:=BN.out _ hb6
            obtain ⟨X8,iw,x8,pM,VP⟩:=fo x7 rfl y yq y.list.length yd
            have zB:=uW x7 rfl y yq y.list.length yd iw
            have rR:(Instr.storeAt 25 (.pointer (some ⟨V.heap.size,0,none⟩)) (.agg #[.int .i64 y.kind,.int .u64 y.num,.string y.text,.slice yq y.list.length yd,.int .i64 y.elem])).run Tryz.prog w6= .ok () X8:=iw
            have h8:Below V.heap.size V X8:=hb6.trans pM
            have AR:=BN.out _ h8
            have Sd:=ag x8.1
            have HL8:Hid (bu (fun b=>P b∨V.heap.size≤b) X8 M6 (.slice yq y.list.length yd) y.list):=(JS.heap (w':=X8) (by omega) fun b hb _=>zB b (by rcases hb with h|h;have:=HP.out b h;have:=HZV.out;omega;omega)).weak fun b hb _=>hb.elim .inl fun h=> .inr (by omega)
            have H8:=ajd h8
            clear h8 pM x7 x8 VP zB hb6 lG JS iw))))
      all_goals
       have hne:e≠0:=Zi HAA.out
       have hee:(e !=0)=true:=by simp [hne]
       have hzs:=H8.out.size
       have HW8:Hid (Below rb W5 X8):=abo.out.trans ((oz.out.trans (H8.out.mono (by omega))).mono (by have:=abo.out.size;omega))
       obtain ⟨Xe,hse,hle,_,hbe,zD,_⟩:=bJ (EX.out X8 HW8.out) rfl 0 none 0 0
       have HE:Hid (R= .error (j,e)):=Nl.out.trans (by rw [lU (ys:=items.map (·.1)) (by simp [hlj]) HI.out xJ.out (by rw [HYJ.out];exact HAA.out)])
       have AP:=ajd hle
       have AQ:Hid (Below w.heap.size w Xe):=(NF.out.trans (HW8.out.mono (by have:=NF.out.size;omega))).trans (hbe.mono (by omega))
       clear hle hbe zD Sd AR hne
       go_wp2
       exact bodyPost_ret_by (aR rfl rfl AP.out rfl rfl) rfl (by rw [HE.out];exact ⟨AQ.out,rfl⟩)
     |ok u=>
      go_region_held3 (fun v=>(Instr.loadAt 121 (.pointer (some ⟨fb,jX+j*9,none⟩))).run Tryz.prog v= .ok (jJ f (.slice kp f.kinds.length kc)) v∧(Instr.loadAt 25 (.pointer (some ⟨wr.heap.size,0,none⟩))).run Tryz.prog v= .ok (y.agg (.slice yq y.list.length yd)) v)
       (first
         |with_reducible exact AR
         |with_reducible exact hv7
         |with_reducible exact hv6
         |with_reducible exact BN.out _ vV
         |with_reducible exact BN.out _ hD)
       ((go_at_call 152
         go_must (
         first
          |(refine (HIT.out V.drew hD).mono ?_
            rintro r w6 ⟨lG,bQ⟩
            have hb6:Below V.heap.size V w6:=hD.trans lG
            obtain ⟨Sc,M6,rfl,uf6,JS⟩:=bQ;obtain ⟨q6,c6,rfl⟩:=JS.slice;have UF6:=ajd uf6;clear uf6
            have xG:=hb6.size
            obtain ⟨x7,rY,kr⟩:=aH (w:=w6) (cs:=ah.cells (.slice none 0 0)) (T:=25) rfl
            have h7:Below V.heap.size V (w6.alloc (.cells #[.int .i64 0,.int .u64 0,.string ⟨#[]⟩,.slice none 0 0,.int .i64 0] 25)):=hb6.trans (kr.mono xG)
            have hv6:=BN.out _ hb6
            have hv7:=BN.out _ h7
            obtain ⟨X8,iw,x8,pM,VP⟩:=fo x7 rfl u q6 u.list.length c6
            have zB:=uW x7 rfl u q6 u.list.length c6 iw
            have rR:(Instr.storeAt 25 (.pointer (some ⟨w6.heap.size,0,none⟩)) (.agg #[.int .i64 u.kind,.int .u64 u.num,.string u.text,.slice q6 u.list.length c6,.int .i64 u.elem])).run Tryz.prog (w6.alloc (.cells #[.int .i64 0,.int .u64 0,.string ⟨#[]⟩,.slice none 0 0,.int .i64 0] 25))= .ok () X8:=iw
            have h8:Below V.heap.size V X8:=h7.trans (pM.mono xG)
            have AR:=BN.out _ h8
            have Sd:=ag x8.1
            have HL8:Hid (bu (fun b=>P b∨V.heap.size≤b) X8 M6 (.slice q6 u.list.length c6) u.list):=(((JS.weak (Q:=fun b=>(P b∨V.heap.size≤b)∧b<w6.heap.size) fun b hb hlt=>⟨hb,hlt⟩).below kr).heap (w':=X8) (by omega) fun b hb _=>zB b (by omega)).weak fun b hb _=>hb.1
            have H8:=ajd h8
            clear h8 pM h7 rY kr x7 x8 VP zB hb6 lG JS iw)
          |(refine (HIT.out ((V.alloc (.cells #[.int .i64 0,.int .u64 0,.string ⟨#[]⟩,.slice none 0 0,.int .i64 0] 25)).drew) vV).mono ?_
            rintro r w6 ⟨lG,bQ⟩
            have hb6:Below V.heap.size V w6:=vV.trans (lG.mono vV.size)
            obtain ⟨Sc,M6,rfl,uf6,JS⟩:=bQ;obtain ⟨q6,c6,rfl⟩:=JS.slice;have UF6:=ajd uf6;clear uf6
            have xG:V.heap.size+1≤w6.heap.size:=by have:=lG.size;omega
            have x7:=xA.below lG (by omega)
            have hv6:=BN.out _ hb6
            obtain ⟨X8,iw,x8,pM,VP⟩:=fo x7 rfl u q6 u.list.length c6
            have zB:=uW x7 rfl u q6 u.list.length c6 iw
            have rR:(Instr.storeAt 25 (.pointer (some ⟨V.heap.size,0,none⟩)) (.agg #[.int .i64 u.kind,.int .u64 u.num,.string u.text,.slice q6 u.list.length c6,.int .i64 u.elem])).run Tryz.prog w6= .ok () X8:=iw
            have h8:Below V.heap.size V X8:=hb6.trans pM
            have AR:=BN.out _ h8
            have Sd:=ag x8.1
            have HL8:Hid (bu (fun b=>P b∨V.heap.size≤b) X8 M6 (.slice q6 u.list.length c6) u.list):=(JS.heap (w':=X8) (by omega) fun b hb _=>zB b (by rcases hb with h|h;have:=HP.out b h;have:=HZV.out;omega;omega)).weak fun b hb _=>hb.elim .inl fun h=> .inr (by omega)
            have H8:=ajd h8
            clear h8 pM x7 x8 VP zB hb6 lG JS iw))))
      all_goals
       have hzs:=H8.out.size
       have HW8:Hid (Below rb W5 X8):=abo.out.trans ((oz.out.trans (H8.out.mono (by omega))).mono (by have:=abo.out.size;omega))
       have VM:Hid (Below wr.heap.size wr X8):=oz.out.trans (H8.out.mono (by omega))
       have RB8:=ajd (HRB.out.below VM.out (by have:=gK.out.Bw;omega))
       have l9:=aF (RB8.out.cell (j:=1) rfl)
       have zc:Below X8.heap.size X8 (X8.alloc (.cells #[.int .i64 u.kind,.int .u64 u.num,.string u.text,.slice q6 u.list.length c6,.int .i64 u.elem] 25)):=(Below.refl _ _).alloc (Nat.le_refl _) _
       have BG:=(gK.out.keep VM.out).keep zc
       have zl:=ajd BG
       have hrow:=BG.row;rw [hlj] at hrow
       have zm:=BG.Bw
       have HZC:=ajd zc
       have HUA:Hid (bu (fun b=>(P b∨W5.heap.size≤b)∧(Value.slice sp j sc).ownBlock≠some b) (X8.alloc (.cells #[.int .i64 u.kind,.int .u64 u.num,.string u.text,.slice q6 u.list.length c6,.int .i64 u.elem] 25)) M6 (.slice q6 u.list.length c6) u.list):=
        BG.away (lo:=V.heap.size) (HL8.out.below zc) (fun b hb _=>by
         rcases hb with h|h
         ·exact ⟨.inl h,.inl (by have:=HP.out b h;have:=NF.out.size;omega)⟩
         ·exact ⟨.inr (by have:=gK.out.Bw;omega),.inr h⟩) (fun b hb=>by have:=(gK.out.iL hb).2;omega)
       clear zc BG AR
       go_wp2_with (at_builtin;go_must (refine wpList_append_own_at _ rfl _ _ 23 rfl W5.heap.size 25 i0 _ 5 64 Tryz.underlying23 hi0 hi1 hi2 hi3 rfl (by decide) (.slice sp j sc) j (bE items) rfl hrow ⟨X8.heap.size,0,none⟩ 1 1 (u.cells (.slice q6 u.list.length c6)) rfl rfl (pg X8 _ _ _) (pq _ _ _ _) hmx hmb zm ?_;intro v' w7 uR oC Ng Nh;rw [←hlj] at uR;have hP7:=zl.out.push (x:=(u,.slice q6 u.list.length c6)) UF6.out HUA.out uR oC Nh;obtain ⟨sp7,sc7,e7⟩:=hP7.form;rw [List.length_append,hlj] at e7;subst e7;have rb7:eF w7 rb [.int .i64 k,.slice sp j sc]:=(RB8.out.below HZC.out (by have:=VM.out.size;have:=gK.out.Bw;omega)).heap (oC.block rb (by have:=VM.out.size;have:=gK.out.Bw;have:=HZC.out.size;omega) (fun e=>by have:=(gK.out.iL e.symm).1;omega));obtain ⟨X9,uT,x9,hg9,hz9⟩:=Vv rb7 sp7 (j+1) sc7;have hP9:=hP7.aside hg9 (by omega) (by rintro (h|h);have:=HP.out _ h;have:=NF.out.size;omega;omega);have HB9:Hid (Below rb wr X9):=(((VM.out.trans (HZC.out.mono VM.out.size)).mono (by have:=gK.out.Bw;omega)).grown oC (by have:=VM.out.size;have:=HZC.out.size;have:=gK.out.Bw;omega) (fun b e=>by have:=(gK.out.iL e).1;omega)).grown hg9 (by have:=VM.out.size;have:=HZC.out.size;have:=gK.out.Bw;have:=oC.size;omega) (fun b e=>by cases e;omega);have HP9:=ajd hP9;have X9b:=ajd x9;clear hP7 hP9 x9 hg9 hz9 rb7 uR oC Ng Nh))
       have hll:(items++[((u,.slice q6 u.list.length c6):VT×Value)]).length=j+1:=by simp [hlj]
       have HI9:Hid (∀ (i:Nat) (f:FT) (z:VT),fs[i]? =some f→((items++[((u,.slice q6 u.list.length c6):VT×Value)]).map (·.1))[i]? =some z→bA (ai n) f ((x.list[i]?).getD ah)= .ok z):=by
        have:=kW (ys:=items.map (·.1)) (by simp [hlj]) HI.out xJ.out (by rw [HYJ.out];exact HAA.out)
        show ∀ (i:Nat) (f:FT) (z:VT),_→_→_
        intro i f' z h1 h2
        rw [List.map_append] at h2
        exact this i f' z h1 h2
       have HR9:Hid (Below rb W5 X9):=HWR.out.trans HB9.out
       have HLL:=ajd hll
       clear hll hrow zm
       go_roundw
       case rel=>exact ⟨j+1,_,sp7,sc7,by go_num,by omega,HLL.out,HI9.out,X9b.out,HP9.out.here,HR9.out⟩
       case measure=>simp [intOf];omega
   ·obtain rfl:j=m:=by omega
    have HE:Hid (R= .ok (k,items.map (·.1))):=Nl.out.trans (by rw [vg (by rw [List.length_map,hlj,Hm.out]) HI.out])
    have l9:=gI HRB.out
    obtain ⟨Xe,hse,hle,_,hbe,zD,afW⟩:=bJ (EX.out wr HWR.out) rfl k sp j sc
    have AP:=ajd hle
    have AQ:Hid (Below w.heap.size w Xe):=(NF.out.trans (HWR.out.mono (by have:=EF.out.size;omega))).trans (hbe.mono (by omega))
    have EJ:Hid (∃ M,bu (fun b=>P b∨w.heap.size≤b) Xe M (.slice sp j sc) (items.map (·.1))):=by
     obtain ⟨M,hM⟩:=gK.out.vX (fun b h=> .inr h) (by unfold maxLen;omega)
     refine ⟨M,(hM.heap (w':=Xe) (by omega) fun b hb _=>afW b ?_).weak fun b hb _=>?_⟩
     ·rcases hb with h|h
      ·have:=HP.out b h;omega
      ·have:=EF.out.size;omega
     ·rcases hb with h|h
      ·exact .inl h
      ·exact .inr (by have:=NF.out.size;omega)
    clear hle hbe zD afW
    go_wp2
    exact bodyPost_ret_by (aR rfl rfl AP.out rfl rfl) rfl (by
     obtain ⟨M,hM⟩:=EJ.out
     rw [HE.out]
     exact ⟨AQ.out,_,M,rfl,hM⟩)
theorem uX:∀ n,RUn n∧RPk n
 |0=>⟨Fb fun m h=>by omega,H6 fun m h=>by omega⟩
 |n+1=>⟨Fb fun m h=>by have e:n=m:=(by omega);subst e;exact uX n,H6 fun m h=>by have e:n=m:=(by omega);subst e;exact uX n⟩
end Go.Proofs.YtmldhjoolebjoaaGreatDoor.Va
namespace Go.Proofs.YtmldhjoolebjoaaGreatDoor.Va
open Go Go.RowKit Nu Uc Fd Go.Proofs.YtmldhjoolebjoaaGreatDoor.Nm
attribute [-go_sem] Go.Instr.loadAt Go.Instr.storeAt
theorem F3 {N:Nat} {P:Nat→Prop} (k:Int) (l:List VT) (lv:Value) (w:World) (FD:∀ b,P b→b<w.heap.size) (hE:Env w) (hl:bu P w N lv l) (hnd:(aj l+13)*2^3≤800000000):
 Calls Tryz.prog 80 #[.agg #[.int .i64 k,lv]] w fun r w'=>r= .returned (.int .i64 (recC (ai 3) (aU 3) k l))∧Below w.heap.size w w':=by
 obtain ⟨p,c,rfl⟩:=hl.slice
 obtain ⟨W1,hW1⟩:∃ W1,w.alloc (.cells #[.int .i64 k,.slice p l.length c] 91)=W1:=⟨_,rfl⟩
 obtain ⟨x1,hz1,hb1⟩:=aH (cs:=[.int .i64 k,.slice p l.length c]) hW1
 have l0:=aG (x1.cell (j:=0) rfl)
 have X1:=ajd x1
 have HB1:=ajd hb1
 have AJ:=ajd (hE.below hb1)
 have HL:=ajd hl
 have o7:=ajd hnd
 have HP:=ajd FD
 have rE:=mh k W1
 unfold gH at rE
 obtain ⟨R,hR⟩:∃ R,recC (ai 3) (aU 3) k l=R:=⟨_,rfl⟩
 obtain ⟨of,hof⟩:∃ of,aN k=of:=⟨_,rfl⟩
 have BP:=ajd hof
 have HR:Hid (R=Ns k l of):=by
  show R=_
  rw [←hR,←hof];exact JM k l
 rw [hof] at rE
 rw [hR]
 have JF:=ajd rE
 clear hl x1 hb1 hE hnd rE hR FD
 go_enter Tryz.func80,Tryz.ntmps80
 go_wp2_with (fail)
 clear hW1 l0
 refine JF.out.mono ?_
 rintro r w2 ⟨vf,rfl,hfo,hb2⟩
 have z2:=hb2.size
 have xI:=ajd (X1.out.below hb2 (by omega))
 have HB2:=ajd (HB1.out.trans (hb2.mono (by omega)))
 have HE2:=ajd (AJ.out.below hb2)
 clear hb2
 cases of with
 |none=>
  have oF:Hid (R=70):=HR.out
  rcases hfo with ⟨_,rfl⟩|⟨h,_⟩
  ·go_wp2
   go_ret
   exact ⟨mF oF.out.symm,HB2.out⟩
  ·exact absurd rfl h
 |some fs=>
  have HRR:Hid (R=if l.length≠fs.length then 71 else if dI (ai 3) fs l≠0 then dI (ai 3) fs l else if 32<gV (aU 3 k l) then 26 else 0):=HR.out
  have JG:j6 W1.heap.size w2.heap.size w2 vf fs:=hfo
  obtain ⟨fp,fc,rfl,hu⟩:=JG.view
  have Cg:Hid (j6 W1.heap.size w2.heap.size w2 (.slice fp fs.length fc) fs):=JG
  have hfl:=fP BP.out
  obtain ⟨m,hm⟩:∃ m,fs.length=m:=⟨_,rfl⟩
  obtain ⟨g,hg⟩:∃ g,l.length=g:=⟨_,rfl⟩
  have Hm:=ajd hm
  have Hg:=ajd hg
  have hgl:g≤900000000:=by
   have h1:=fZ l
   have:=o7.out
   omega
  simp only [Option.isSome_some]
  rw [hm] at Cg hfl ⊢
  rw [hg] at X1 xI HL
  have l2:=aF (xI.out.cell (j:=1) rfl)
  clear hfo JG hu hm hg HR
  by_cases hne:g=m
  case neg=>
   have oF:Hid (R=71):=HRR.out.trans (if_pos (by rw [Hm.out,Hg.out];exact hne))
   have hnb:((g:Int)!=(m:Int))=true:=by simp;omega
   clear hne
   go_wp2
   go_ret
   exact ⟨mF oF.out.symm,HB2.out⟩
  subst hne
  have HR2:=ajd (HRR.out.trans (if_neg (by rw [Hm.out,Hg.out];simp)))
  go_wp2
  clear l2
  go_loopw [5] (fun iv wr=>∃ j:Nat,iv= .int .i64 j∧j≤g∧Hid (dI (ai 3) fs l=dI (ai 3) (fs.drop j) (l.drop j))∧Hid (Below w2.heap.size w2 wr)) (fun iv _=>g-(intOf iv).toNat)
  case atStart=>exact ⟨0,rfl,Nat.zero_le _,(by show dI _ _ _=_;simp),Below.refl _ _⟩
  case round=>
   obtain ⟨j,rfl,hj,HJ,EZ⟩:=hrel
   by_cases EY:j<g
   ·obtain ⟨x,hx⟩:∃ x,l[j]? =some x:=⟨_,List.getElem?_eq_getElem (by rw [Hg.out];exact EY)⟩
    obtain ⟨f,hf⟩:∃ f,fs[j]? =some f:=⟨_,List.getElem?_eq_getElem (by rw [Hm.out];exact EY)⟩
    have hbw:Below w.heap.size w wr:=HB2.out.trans (EZ.out.mono (by have:=HB2.out.size;omega))
    have hLr:=HL.out.below hbw
    cases N with
    |zero=>exact hLr.elim
    |succ N=>
    rcases hLr with ⟨h0,_⟩|⟨b,off,c',hp,_,jy,_,hel⟩
    ·exfalso;have:=Hg.out;rw [h0] at this;simp at this;omega
    rw [Hg.out] at hp
    cases hp
    obtain ⟨xf,xlv,Nc,xl⟩:=hel j x hx
    obtain ⟨xq,xd,rfl⟩:=xl.slice
    obtain ⟨q1,d1,e1,hv⟩:=(Cg.out.below EZ.out).view
    obtain ⟨fb,jX,kv,rfl,ZA,⟨a0,a1,a2,a3,a4,a5,a6,a7,a8⟩,hkv⟩:=hv j f hf
    simp only [Value.slice.injEq] at e1
    obtain ⟨rfl, -, -⟩:=e1
    obtain ⟨kp,kc,rfl,Vd⟩:=hkv.view
    have hcf:Cells wr fb (jX+j*9) (fA f (.slice kp f.kinds.length kc)):=fun j u hu=>by
     match j,hu with
     |0,hu=>cases hu;exact a0
     |1,hu=>cases hu;exact a1
     |2,hu=>cases hu;exact a2
     |3,hu=>cases hu;exact a3
     |4,hu=>cases hu;exact a4
     |5,hu=>cases hu;exact a5
     |6,hu=>cases hu;exact a6
     |7,hu=>cases hu;exact a7
     |8,hu=>cases hu;exact a8
     |j+9,hu=>simp [fA] at hu
    have hj0:(0:Int)≤(j:Int):=by omega
    have hj1:(j:Int)<(g:Int):=by omega
    have hnx:nodes x≤aj l:=gY (List.mem_of_getElem? hx)
    have hkl:f.kinds.length≤1000:=by
     obtain ⟨e,he,_,h2⟩:=eU BP.out
     have:=(xV e he).2 f (by rw [h2];exact List.mem_of_getElem? hf)
     omega
    have TG:=EZ.out.size
    have wI:=HB2.out.size
    have gL:Hid (∀ v,Below wr.heap.size wr v→(Instr.loadAt 121 (.pointer (some ⟨fb,jX+j*9,none⟩))).run Tryz.prog v= .ok (jJ f (.slice kp f.kinds.length kc)) v∧(Instr.loadAt 23 (.pointer (some ⟨w.heap.size,1,none⟩))).run Tryz.prog v= .ok (.slice (some ⟨b,off,none⟩) g c) v∧(Instr.loadAt 25 (.pointer (some ⟨b,off+j*5,none⟩))).run Tryz.prog v= .ok (x.agg (.slice xq x.list.length xd)) v):=fun v h=>by
     have hc:Cells v fb (jX+j*9) (fA f (.slice kp f.kinds.length kc)):=fun j u hu=>(h.cell (p:=⟨fb,_,none⟩) ZA).trans (hcf j u hu)
     exact ⟨eY hc,aF (((xI.out.below EZ.out (by omega)).below h (by omega)).cell (j:=1) rfl),ag (dW (Nc.below h jy))⟩
    have FX:Hid (∀ v,Below wr.heap.size wr v→Calls Tryz.prog 100 #[jJ f (.slice kp f.kinds.length kc),x.agg (.slice xq x.list.length xd)] v fun r w'=>r= .returned (.int .i64 (gX (ai 3) f x))∧Below v.heap.size v w'):=fun v h=>
     Vt (n:=3) (N:=N) (P:=P) (fun m hm=>(uX m).1) f (.slice kp f.kinds.length kc) x (.slice xq x.list.length xd) v (fun b hb=>by have:=HP.out b hb;have:=h.size;omega) ((HE2.out.below EZ.out).below h) (hkv.below h) hkl xf (xl.below h) (fun h1 h2=>Nat.lt_of_lt_of_le (nk BP.out (List.mem_of_getElem? hf) h1 h2) (Gh k)) (Nat.le_trans (Nat.mul_le_mul_right _ (Nat.add_le_add_right hnx 13)) o7.out)
    have HJ2:=ajd (HJ.out.trans (xY hf hx))
    obtain ⟨E,hE⟩:∃ E,gX (ai 3) f x=E:=⟨_,rfl⟩
    rw [hE] at FX HJ2
    clear hel hx hf Nc xl hv hkv Vd a0 a1 a2 a3 a4 a5 a6 a7 a8 hcf hnx hkl hE hbw
    go_wp2
    go_region_held3 (fun v=>(Instr.loadAt 121 (.pointer (some ⟨fb,jX+j*9,none⟩))).run Tryz.prog v= .ok (jJ f (.slice kp f.kinds.length kc)) v∧(Instr.loadAt 23 (.pointer (some ⟨w.heap.size,1,none⟩))).run Tryz.prog v= .ok (.slice (some ⟨b,off,none⟩) g c) v∧(Instr.loadAt 25 (.pointer (some ⟨b,off+j*5,none⟩))).run Tryz.prog v= .ok (x.agg (.slice xq x.list.length xd)) v)
     (first
       |with_reducible exact gL.out _ hb5
       |with_reducible exact gL.out _ (Below.refl _ _).drew
       |with_reducible exact gL.out _ (Below.refl _ _))
     ((go_at_call 100;refine (FX.out _ (Below.refl _ _).drew).mono ?_;rintro r V ⟨rfl,cB⟩;have hb5:Below wr.heap.size wr V:=(Below.refl _ _).drew.trans cB;clear cB))
    have oz:Hid (Below w2.heap.size w2 V):=EZ.out.trans (hb5.mono (by omega))
    clear hb5
    by_cases hE0:E=0
    ·subst hE0
     have HJ3:=ajd (HJ2.out.trans (if_neg (by simp)))
     go_wp2
     go_roundw
     case rel=>exact ⟨j+1,by go_num,by omega,HJ3.out,oz.out⟩
     case measure=>simp [intOf];omega
    ·have hEb:(E !=0)=true:=by simp [hE0]
     have HJ3:=ajd (HJ2.out.trans (if_pos hE0))
     have oF:Hid (R=E):=HR2.out.trans ((if_pos (by rw [HJ3.out];exact hE0)).trans HJ3.out)
     clear hE0
     go_wp2
     go_ret
     exact ⟨mF oF.out.symm,HB2.out.trans (oz.out.mono (by have:=HB2.out.size;omega))⟩
   ·obtain rfl:j=g:=by omega
    have HJ0:Hid (dI (ai 3) fs l=0):=by
     show _=_
     rw [HJ.out,List.drop_eq_nil_of_le (by rw [Hm.out];omega)];rfl
    have HR3:=ajd (HR2.out.trans (if_neg (by rw [HJ0.out];simp)))
    have TG:=EZ.out.size
    have wI:=HB2.out.size
    have lr:=gI (xI.out.below EZ.out (by omega))
    have hbw:Below w.heap.size w wr:=HB2.out.trans (EZ.out.mono (by omega))
    have Si:=ajd ((uX 3).2 P _ _ N k fs l (.slice p j c) (.slice fp j fc) wr (fun b hb=>by have:=HP.out b hb;have:=hbw.size;omega) (HE2.out.below EZ.out) BP.out (by rw [Hg.out,Hm.out]) (Cg.out.below EZ.out) (HL.out.below hbw) (Gh k) o7.out (Be HJ0.out))
    clear hbw
    go_wp2_with (fail)
    refine Si.out.mono ?_
    rintro r w5 ⟨lv5,M5,rfl,Fy,hb5⟩
    obtain ⟨q5,c5,rfl⟩:=Fy.slice
    obtain ⟨Wa,hWa⟩:∃ Wa,w5.alloc (.cells #[.int .i64 0,.int .u64 0,.string ⟨#[]⟩,.slice none 0 0,.int .i64 0] 25)=Wa:=⟨_,rfl⟩
    obtain ⟨xa,hza,hba⟩:=aH (cs:=ah.cells (.slice none 0 0)) hWa
    obtain ⟨Wb,hst,xb,hbb,hzb⟩:=fo xa rfl (aU 3 k l) q5 (aU 3 k l).list.length c5
    have hab:Below w5.heap.size w5 Wb:=hba.trans hbb
    have lq:=ag xb.1
    have HDP:=ajd (aa8 M5 Wb.heap.size (aU 3 k l) (.slice q5 (aU 3 k l).list.length c5) Wb (Fy.below hab).vX (Nat.le_refl _) (by have h1:nodes (aU 3 k l)≤2*aj l+3:=sU (zM 3) k l;have:=o7.out;omega))
    have oH:=hb5.size
    have Sa:=ajd (HB2.out.trans ((EZ.out.trans ((hb5.trans (hab.mono oH)).mono (by omega))).mono (by omega)))
    clear Fy
    obtain ⟨D,hD⟩:∃ D,gV (aU 3 k l)=D:=⟨_,rfl⟩
    rw [hD] at HDP HR3
    clear hD hb5 xa hba xb hbb hab oH lr
    go_wp2_with (fail)
    refine HDP.out.mono ?_
    rintro r w6 ⟨rfl,hk6⟩
    have NN:=ajd (Sa.out.trans (hk6.mono (by have:=Sa.out.size;omega)))
    clear hk6 lq hst
    by_cases hd:32<D
    ·have oF:Hid (R=26):=HR3.out.trans (if_pos hd)
     have hdb:decide ((D:Int)>32)=true:=by simp;omega
     go_wp2
     go_ret
     exact ⟨mF oF.out.symm,NN.out⟩
    ·have oF:Hid (R=0):=HR3.out.trans (if_neg hd)
     have hdb:decide ((D:Int)>32)=false:=by simp;omega
     go_wp2
     go_ret
     exact ⟨mF oF.out.symm,NN.out⟩
theorem JU {N:Nat} {P:Nat→Prop} (k:Int) (l:List VT) (lv:Value) (w:World) (FD:∀ b,P b→b<w.heap.size) (hE:Env w) (hl:bu P w N lv l) (hnd:(aj l+13)*2^3≤800000000):
 Calls Tryz.prog 60 #[.agg #[.int .i64 k,lv]] w fun r w'=>bY P (eB k l (recC (ai 3) (aU 3) k l)) (ah.agg (.slice none 0 0)) w r w':=by
 obtain ⟨p,c,rfl⟩:=hl.slice
 obtain ⟨W1,hW1⟩:∃ W1,(w.alloc (.cells #[.int .i64 k,.slice p l.length c] 91)).alloc (.cells #[.int .i64 0,.int .u64 0,.string ⟨#[]⟩,.slice none 0 0,.int .i64 0] 25)=W1:=⟨_,rfl⟩
 obtain ⟨x1,x2,hz1,hb1⟩:=bK (cs:=[.int .i64 k,.slice p l.length c]) (ds:=ah.cells (.slice none 0 0)) hW1
 have l0:=gI x1
 have HC:=ajd (F3 k l (.slice p l.length c) W1 (P:=P) (fun b hb=>by have:=FD b hb;omega) (hE.below hb1) (hl.below hb1) hnd)
 have X1:=ajd x1
 have X2:=ajd x2
 have HB1:=ajd hb1
 have AJ:=ajd (hE.below hb1)
 have MP:=ajd (hl.below hb1)
 have o7:=ajd hnd
 have HP:=ajd FD
 obtain ⟨C,hC⟩:∃ C,recC (ai 3) (aU 3) k l=C:=⟨_,rfl⟩
 have VJ:=ajd hC
 rw [hC] at HC ⊢
 clear hl x1 x2 hb1 hE hnd hC FD
 go_enter Tryz.func60,Tryz.ntmps60
 go_wp2_with (fail)
 clear hW1 l0
 refine HC.out.mono ?_
 rintro r w2 ⟨rfl,hb2⟩
 have z2:W1.heap.size≤w2.heap.size:=hb2.size
 have Au:=X2.out.below hb2 (by omega)
 have HB2:=ajd (HB1.out.trans (hb2.mono (by omega)))
 by_cases hC0:C=0
 ·subst hC0
  obtain ⟨fs,hfs,hll,hfc⟩:=Ht VJ.out
  have l5:=aG ((X1.out.below hb2 (by omega)).cell (j:=0) rfl)
  have rE:=mh k w2
  unfold gH at rE
  rw [hfs] at rE
  have JF:=ajd rE
  have HF:Hid (aN k=some fs∧l.length=fs.length∧C8 3 fs l):=⟨hfs,hll,Be hfc⟩
  have aiD:=ajd hb2
  clear hfs hll hfc hb2 Au rE
  go_wp2_with (go_at_call 81;refine JF.out.mono ?_;rintro r w3 ⟨vf,rfl,hfo,hb3⟩;have Vw:=ajd (aiD.out.trans (hb3.mono z2));have Cg:=ajd hfo;have l6:=gI (X1.out.below Vw.out (by omega));clear hb3 hfo)
  have z3:=Vw.out.size
  have Si:=ajd ((uX 3).2 P _ _ N k fs l (.slice p l.length c) vf w3 (fun b hb=>by have:=HP.out b hb;omega) (AJ.out.below Vw.out) HF.out.1 HF.out.2.1 Cg.out (MP.out.below Vw.out) (Gh k) o7.out HF.out.2.2)
  refine Si.out.mono ?_
  rintro r w6 ⟨Sc,M6,rfl,Sb,hb6⟩
  obtain ⟨q6,c6,rfl⟩:=Sb.slice
  have z6:=hb6.size
  obtain ⟨X7,hs7,wN,kr,rY,hsame⟩:=bL ((X2.out.below Vw.out (by omega)).below hb6 (by omega)) rfl (aU 3 k l) q6 (aU 3 k l).list.length c6
  have iJ:=ajd wN
  have HQ:Hid (bY P (eB k l 0) (ah.agg (.slice none 0 0)) w (.returned (.tuple #[(aU 3 k l).agg (.slice q6 (aU 3 k l).list.length c6),.int .i64 0])) X7):=by
   show bY P (.ok (aU 3 k l)) _ w _ X7
   refine ⟨((HB1.out.trans (Vw.out.mono (by omega))).trans (hb6.mono (by omega))).trans (kr.mono (by omega)),_,M6,rfl,kV _ _,?_⟩
   refine (Sb.heap (w':=X7) (by omega) fun b hb hlt=>hsame b ?_).weak fun b hb _=>hb.elim .inl fun h=> .inr (by omega)
   rcases hb with h|h
   ·have:=HP.out b h;omega
   ·omega
  clear wN kr rY hsame Sb hb6 l6
  go_wp2
  exact bodyPost_ret_by (az rfl rfl iJ.out rfl) rfl HQ.out
 ·have hcb:(C !=0)=true:=by simp [hC0]
  obtain ⟨X6,hs6,NM,hb6,xG,_⟩:=bL Au rfl ah none 0 0
  replace hs6:(Instr.storeAt 25 (.pointer (some ⟨w.heap.size+1,0,none⟩)) (.agg #[.int .i64 0,.int .u64 0,.string ⟨#[]⟩,.slice none 0 0,.int .i64 0])).run Tryz.prog w2= .ok () X6:=hs6
  have iJ:=ajd NM
  have HQ:Hid (bY P (eB k l C) (ah.agg (.slice none 0 0)) w (.returned (.tuple #[ah.agg (.slice none 0 0),.int .i64 C])) X6):=by
   show bY P (eB k l C) _ w _ X6
   unfold eB
   rw [if_neg hC0]
   exact ⟨HB2.out.trans (hb6.mono (by omega)),rfl⟩
  clear NM hb6 xG hC0 hb2 Au
  go_wp2
  exact bodyPost_ret_by (az rfl rfl iJ.out rfl) rfl HQ.out
theorem Vx (s:ByteArray) (w:World) (hs:s.size≤9223372036854775807):
 Calls Tryz.prog 57 #[.string s] w fun e w'=>e= .returned (.bool (lV s))∧w'=w:=by
 go_enter Tryz.func57,Tryz.ntmps57
 go_wp2
 go_loop [3] (fun i=>∃ (k:Nat),i= .int .i64 k∧k≤s.size∧Hid (eu s k=eu s 0)) (fun i=>s.size-(intOf i).toNat)
 case atStart=>exact ⟨0,rfl,Nat.zero_le _,rfl⟩
 case round=>
  obtain ⟨k,rfl,hk,HQ⟩:=hrel
  by_cases hlt:k<s.size
  ·obtain ⟨c,hc⟩:∃ c,s[k].toNat=c:=⟨_,rfl⟩
   have HB:Hid (cnd c=false→lV s=false):=fun h=>KU hlt HQ.out (by rw [hc];exact h)
   have HN:Hid (cnd c=true→eu s (k+1)=eu s 0):=fun h=>Gp hlt HQ.out (by rw [hc];exact h)
   have hlt':(k:Int)<(s.size:Int):=by omega
   by_cases h1:97≤c
   ·by_cases h2:c≤122
    ·have q0:(97:Int)≤(c:Int):=by omega
     have q1:(c:Int)≤122:=by omega
     have HE:=ajd (HN.out (o8 (by omega)))
     clear HB HN
     go_wp2
     all_goals (try go_round)
     all_goals
      first
       |exact ⟨⟨k+1,by go_num,by omega,HE.out⟩,by simp [intOf];omega⟩
       |exact ⟨k+1,by go_num,by omega,HE.out⟩
       |(simp [intOf];omega)
    ·have q0:(97:Int)≤(c:Int):=by omega
     have q1:¬(c:Int)≤122:=by omega
     have q2:(48:Int)≤(c:Int):=by omega
     have q3:¬(c:Int)≤57:=by omega
     have q4:((c:Int)==45)=false:=beq_eq_false_iff_ne.2 (by omega)
     have q5:((c:Int)==58)=false:=beq_eq_false_iff_ne.2 (by omega)
     have HE:=ajd (HB.out (AU (by omega)))
     clear HB HN
     go_wp2
     go_ret
     exact ⟨ay HE.out.symm,rfl⟩
   ·by_cases h3:48≤c
    ·by_cases h4:c≤57
     ·have q0:¬(97:Int)≤(c:Int):=by omega
      have q1:(48:Int)≤(c:Int):=by omega
      have q2:(c:Int)≤57:=by omega
      have HE:=ajd (HN.out (o8 (by omega)))
      clear HB HN
      go_wp2
      all_goals (try go_round)
      all_goals
       first
        |exact ⟨⟨k+1,by go_num,by omega,HE.out⟩,by simp [intOf];omega⟩
        |exact ⟨k+1,by go_num,by omega,HE.out⟩
        |(simp [intOf];omega)
     ·by_cases h5:c=58
      ·have q0:¬(97:Int)≤(c:Int):=by omega
       have q1:(48:Int)≤(c:Int):=by omega
       have q2:¬(c:Int)≤57:=by omega
       have q3:((c:Int)==45)=false:=beq_eq_false_iff_ne.2 (by omega)
       have q4:((c:Int)==58)=true:=beq_iff_eq.2 (by omega)
       have HE:=ajd (HN.out (o8 (by omega)))
       clear HB HN
       go_wp2
       all_goals (try go_round)
       all_goals
        first
         |exact ⟨⟨k+1,by go_num,by omega,HE.out⟩,by simp [intOf];omega⟩
         |exact ⟨k+1,by go_num,by omega,HE.out⟩
         |(simp [intOf];omega)
      ·have q0:¬(97:Int)≤(c:Int):=by omega
       have q1:(48:Int)≤(c:Int):=by omega
       have q2:¬(c:Int)≤57:=by omega
       have q3:((c:Int)==45)=false:=beq_eq_false_iff_ne.2 (by omega)
       have q4:((c:Int)==58)=false:=beq_eq_false_iff_ne.2 (by omega)
       have HE:=ajd (HB.out (AU (by omega)))
       clear HB HN
       go_wp2
       go_ret
       exact ⟨ay HE.out.symm,rfl⟩
    ·by_cases h5:c=45
     ·have q0:¬(97:Int)≤(c:Int):=by omega
      have q1:¬(48:Int)≤(c:Int):=by omega
      have q2:((c:Int)==45)=true:=beq_iff_eq.2 (by omega)
      have HE:=ajd (HN.out (o8 (by omega)))
      clear HB HN
      go_wp2
      all_goals (try go_round)
      all_goals
       first
        |exact ⟨⟨k+1,by go_num,by omega,HE.out⟩,by simp [intOf];omega⟩
        |exact ⟨k+1,by go_num,by omega,HE.out⟩
        |(simp [intOf];omega)
     ·have q0:¬(97:Int)≤(c:Int):=by omega
      have q1:¬(48:Int)≤(c:Int):=by omega
      have q2:((c:Int)==45)=false:=beq_eq_false_iff_ne.2 (by omega)
      have q3:((c:Int)==58)=false:=beq_eq_false_iff_ne.2 (by omega)
      have HE:=ajd (HB.out (AU (by omega)))
      clear HB HN
      go_wp2
      go_ret
      exact ⟨ay HE.out.symm,rfl⟩
  ·obtain rfl:k=s.size:=by omega
   have HE:=ajd (KW HQ.out)
   by_cases h0:(1:Int)≤(s.size:Int)
   ·by_cases h64:(s.size:Int)≤64
    ·have h1:lV s=true:=by rw [HE.out,decide_eq_true (by omega),decide_eq_true (by omega)];rfl
     go_wp2
     go_ret
     exact ⟨ay (by simp),rfl⟩
    ·have h1:lV s=false:=by rw [HE.out,decide_eq_false (by omega:¬s.size≤64),Bool.and_false]
     go_wp2
     go_ret
     exact ⟨ay (by simp),rfl⟩
   ·have h1:lV s=false:=by rw [HE.out,decide_eq_false (by omega:¬0<s.size)];rfl
    go_wp2
    go_ret
    exact ⟨ay (by simp),rfl⟩
theorem Vy (s:ByteArray) (w:World) (hs:s.size≤9223372036854775807):
 Calls Tryz.prog 58 #[.string s] w fun e w'=>e= .returned (.bool (Bd s))∧w'=w:=by
 have HU:=ajd (Hz s w hs)
 obtain ⟨b,hb⟩:∃ b,decide (SH s<0)=b:=⟨_,rfl⟩
 have HS:Hid (Bd s=(decide (s.size≤4096)&&b)):=by show _=_;rw [←hb];rfl
 rw [hb] at HU
 clear hb
 go_enter Tryz.func58,Tryz.ntmps58
 go_wp2_with (fail)
 refine HU.out.mono ?_
 rintro r w2 ⟨rfl,rfl⟩
 cases b with
 |false=>
  go_wp2
  go_ret
  exact ⟨ay (by rw [HS.out];simp),rfl⟩
 |true=>
  by_cases h:(s.size:Int)≤4096
  ·have hd:decide (s.size≤4096)=true:=decide_eq_true (by omega)
   go_wp2
   go_ret
   exact ⟨ay (by rw [HS.out,hd];simp),rfl⟩
  ·have hd:decide (s.size≤4096)=false:=decide_eq_false (by omega)
   go_wp2
   go_ret
   exact ⟨ay (by rw [HS.out,hd];simp;omega),rfl⟩
theorem Vz {N B:Nat} (t:VT) (lv:Value) (w:World) (hf:t.bD) (hl:bR B w N lv t.list) (hB:B≤w.heap.size) (hn:nodes t≤900000000):
 Calls Tryz.prog 59 #[t.agg lv] w fun r w'=>r= .returned (.int .i64 (sV t))∧Below w.heap.size w w':=by
 obtain ⟨p,c,rfl⟩:=hl.slice
 obtain ⟨W1,hW1⟩:∃ W1,w.alloc (.cells #[.int .i64 t.kind,.int .u64 t.num,.string t.text,.slice p t.list.length c,.int .i64 t.elem] 25)=W1:=⟨_,rfl⟩
 obtain ⟨x1,hz1,hb1⟩:=aH (cs:=t.cells (.slice p t.list.length c)) hW1
 have HB1:=ajd hb1
 have HC:=ajd (xH (N:=N) (B:=B) t (.slice p t.list.length c) W1 hf (hl.below (hb1.mono hB)) (by omega) hn)
 have l1:=aG (x1.cell (j:=0) rfl)
 have l2:=ag x1.1
 have hzz:w.heap.size≤W1.heap.size:=by omega
 clear hl hb1 hf hn x1
 go_enter Tryz.func59,Tryz.ntmps59
 by_cases h0:t.kind=0
 ·have HI:sV t=aB t 1:=if_neg (by omega)
  have b0:(t.kind !=0)=false:=by simp [h0]
  rw [HI]
  clear h0 HI
  go_wp2_with (fail)
  refine HC.out.mono ?_
  rintro r w2 ⟨rfl,hk⟩
  have HB:=ajd (HB1.out.trans (hk.mono hzz))
  clear hk
  go_wp2
  go_ret
  exact ⟨rfl,HB.out⟩
 ·by_cases h2:t.kind=22
  ·have HI:sV t=aB t 1:=if_neg (by omega)
   have b0:(t.kind !=0)=true:=bne_iff_ne.2 h0
   have b2:(t.kind !=22)=false:=by simp [h2]
   rw [HI]
   clear h0 h2 HI
   go_wp2_with (fail)
   refine HC.out.mono ?_
   rintro r w2 ⟨rfl,hk⟩
   have HB:=ajd (HB1.out.trans (hk.mono hzz))
   clear hk
   go_wp2
   go_ret
   exact ⟨rfl,HB.out⟩
  ·have HI:sV t=80:=if_pos ⟨h0,h2⟩
   have b0:(t.kind !=0)=true:=bne_iff_ne.2 h0
   have b2:(t.kind !=22)=true:=bne_iff_ne.2 h2
   rw [HI]
   clear HC h0 h2 HI
   go_wp2
   go_ret
   exact ⟨rfl,HB1.out⟩
theorem Fe (s:ByteArray) (w:World):
 Calls Tryz.prog 27 #[.string s] w fun r w'=>r= .returned ((aQ 19 s).agg (.slice none 0 0))∧Below w.heap.size w w':=by
 obtain ⟨W1,hW1⟩:∃ W1,w.alloc (.cells #[.int .i64 0,.int .u64 0,.string ⟨#[]⟩,.slice none 0 0,.int .i64 0] 25)=W1:=⟨_,rfl⟩
 obtain ⟨x1,hz1,hb1⟩:=aH (cs:=ah.cells (.slice none 0 0)) hW1
 by_cases h0:0<s.size
 ·have he2:s.toList.isEmpty=false:=by rw [uU,decide_eq_true h0];rfl
  obtain ⟨Wb,hst,xb,hbb,hzb⟩:=fo x1 rfl (.mk 19 0 s 0 []) none 0 0
  replace hst:(Instr.storeAt 25 (.pointer (some ⟨w.heap.size,0,none⟩)) (.agg #[.int .i64 19,.int .u64 0,.string s,.slice none 0 0,.int .i64 0])).run Tryz.prog W1= .ok () Wb:=hst
  have HR:aQ 19 s= .mk 19 0 s 0 []:=if_neg (by omega)
  have iJ:=ajd (bB xb.1)
  have HB:=ajd (hb1.trans hbb)
  rw [HR]
  clear HR xb hbb x1 hb1
  go_enter Tryz.func27,Tryz.ntmps27
  go_wp2
  exact bodyPost_ret_by (dR rfl rfl iJ.out) rfl ⟨rfl,HB.out⟩
 ·have he2:s.toList.isEmpty=true:=by rw [uU,decide_eq_false h0];rfl
  obtain ⟨Wb,hst,xb,hbb,hzb⟩:=fo x1 rfl ah none 0 0
  replace hst:(Instr.storeAt 25 (.pointer (some ⟨w.heap.size,0,none⟩)) (.agg #[.int .i64 0,.int .u64 0,.string ⟨#[]⟩,.slice none 0 0,.int .i64 0])).run Tryz.prog W1= .ok () Wb:=hst
  have HR:aQ 19 s=ah:=if_pos (by omega)
  have iJ:=ajd (bB xb.1)
  have HB:=ajd (hb1.trans hbb)
  rw [HR]
  clear HR xb hbb x1 hb1
  go_enter Tryz.func27,Tryz.ntmps27
  go_wp2
  exact bodyPost_ret_by (dR rfl rfl iJ.out) rfl ⟨rfl,HB.out⟩
theorem QM {N B:Nat} (c x:ByteArray) (i:VT) (il:Value) (w:World) (hc:c.size≤9223372036854775807) (hx:x.size≤9223372036854775807) (hf:i.bD) (hl:bR B w N il i.list) (hB:B≤w.heap.size) (hn:nodes i≤900000000):
 Calls Tryz.prog 25 #[.agg #[.string c,.string x,.int .i64 i.kind,.int .u64 i.num,.string i.text,il,.int .i64 i.elem]] w fun r w'=>r= .returned (.int .i64 (sW c x i))∧Below w.heap.size w w':=by
 obtain ⟨W1,hW1⟩:∃ W1,w.alloc (.cells #[.string c,.string x,.int .i64 i.kind,.int .u64 i.num,.string i.text,il,.int .i64 i.elem] 27)=W1:=⟨_,rfl⟩
 obtain ⟨x1,hz1,hb1⟩:=aH (cs:= .string c:: .string x::i.cells il) hW1
 have HB1:=ajd hb1
 have xJ:=ajd (Vz (N:=N) (B:=B) i il W1 hf (hl.below (hb1.mono hB)) (by omega) hn)
 have l0:=fO (x1.cell (j:=0) rfl)
 have l1:=fO (x1.cell (j:=1) rfl)
 have l2:=ag (gm x1.1)
 have HC:=ajd (Vx c W1 hc)
 have HS:=ajd (Vy x W1 hx)
 obtain ⟨a,ha⟩:∃ a,lV c=a:=⟨_,rfl⟩
 obtain ⟨b,hb⟩:∃ b,Bd x=b:=⟨_,rfl⟩
 have Nr:Hid (sW c x i=if a=true∧b=true then sV i else 80):=by show _=_;rw [←ha,←hb];rfl
 rw [ha] at HC
 rw [hb] at HS
 clear hl hb1 hf hn x1 ha hb
 go_enter Tryz.func25,Tryz.ntmps25
 go_wp2_with (fail)
 refine HC.out.mono ?_
 rintro r w2 ⟨rfl,rfl⟩
 clear l0 HC
 go_wp2_with (fail)
 refine HS.out.mono ?_
 rintro r w3 ⟨rfl,rfl⟩
 clear l1 HS
 cases a with
 |false=>
  clear xJ
  go_wp2
  go_ret
  exact ⟨dA (by rw [Nr.out];rfl),HB1.out⟩
 |true=>
 cases b with
 |false=>
  clear xJ
  go_wp2
  go_ret
  exact ⟨dA (by rw [Nr.out];rfl),HB1.out⟩
 |true=>
 go_wp2_with (fail)
 clear l2
 refine xJ.out.mono ?_
 rintro r w4 ⟨rfl,hb4⟩
 have MO:=ajd (HB1.out.trans (hb4.mono (by omega)))
 clear hb4 xJ
 go_wp2
 go_ret
 exact ⟨dA (by rw [Nr.out];rfl),MO.out⟩
abbrev Sl:Nat→Prop:=fun _=>False
theorem QN {N B:Nat} (k:Int) (l:List VT) (lv:Value) (w:World) (hE:Env w) (hl:bR B w N lv l) (hB:B≤w.heap.size) (hnd:(aj l+13)*2^3≤800000000):
 Calls Tryz.prog 26 #[.int .i64 k,lv] w fun r w'=>bY Sl (eB k l (recC (ai 3) (aU 3) k l)) (ah.agg (.slice none 0 0)) w r w':=by
 obtain ⟨p,c,rfl⟩:=hl.slice
 obtain ⟨W1,hW1⟩:∃ W1,w.alloc (.cells #[.int .i64 0,.int .u64 0,.string ⟨#[]⟩,.slice none 0 0,.int .i64 0] 25)=W1:=⟨_,rfl⟩
 obtain ⟨x1,hz1,hb1⟩:=aH (cs:=ah.cells (.slice none 0 0)) hW1
 have HCP:=ajd (QE N B l _ W1 (hl.below (hb1.mono hB)) (by omega) (by omega))
 have AJ:=ajd (hE.below hb1)
 obtain ⟨A,hA⟩:∃ A,eB k l (recC (ai 3) (aU 3) k l)=A:=⟨_,rfl⟩
 have HAA:=ajd hA
 rw [hA]
 have HX:=ajd x1
 have HB1:=ajd hb1
 have o7:=ajd hnd
 clear hA hl hb1 x1 hE hnd
 go_enter Tryz.func26,Tryz.ntmps26
 go_wp2_with (fail)
 clear hW1
 refine HCP.out.mono ?_
 rintro r w2 ⟨lv2,M,rfl,hL,hb2⟩
 obtain ⟨q2,d2,rfl⟩:=hL.slice
 have z2:=hb2.size
 have HPK:Hid (Calls Tryz.prog 60 #[.agg #[.int .i64 k,.slice q2 l.length d2]] w2 fun r w'=>bY (fun b=>w.heap.size+1≤b∧b<w2.heap.size) A (ah.agg (.slice none 0 0)) w2 r w'):=by
  have:=JU (P:=fun b=>w.heap.size+1≤b∧b<w2.heap.size) k l _ w2 (fun b hb=>hb.2) (AJ.out.below hb2) (hL.weak fun b hb hlt=>⟨by omega,hlt⟩) o7.out
  rw [HAA.out] at this
  exact this
 have HB2:=ajd hb2
 clear hb2 hL HCP HAA
 go_wp2_with (fail)
 refine HPK.out.mono ?_
 intro r w6 bQ
 have hb6:=bQ.1
 have z6:=hb6.size
 cases A with
 |ok y=>
  obtain ⟨Sc,M6,rfl,ZE,hL6⟩:=bQ.2
  obtain ⟨q6,c6,rfl⟩:=hL6.slice
  obtain ⟨X7,hs7,wN,kr,rY,hsame⟩:=bL ((HX.out.below HB2.out (by omega)).below hb6 (by omega)) rfl y q6 y.list.length c6
  have iJ:=ajd wN
  have HQ:Hid (bY Sl (.ok y) (ah.agg (.slice none 0 0)) w (.returned (.tuple #[y.agg (.slice q6 y.list.length c6),.int .i64 0])) X7):=by
   show bY Sl (.ok y) _ w _ X7
   refine ⟨((HB1.out.trans (HB2.out.mono (by omega))).trans (hb6.mono (by omega))).trans kr,_,M6,rfl,ZE,?_⟩
   exact (hL6.heap (w':=X7) (by omega) fun b hb hlt=>hsame b (by rcases hb with h|h<;>omega)).weak fun b hb _=> .inr (by rcases hb with h|h<;>omega)
  clear wN kr rY hsame hL6 bQ hb6 HPK
  go_wp2
  exact bodyPost_ret_by (az rfl rfl iJ.out rfl) rfl HQ.out
 |error e=>
  have hr:=bQ.2
  simp only at hr
  subst hr
  obtain ⟨X7,hs7,wN,kr,rY,hsame⟩:=bL ((HX.out.below HB2.out (by omega)).below hb6 (by omega)) rfl ah none 0 0
  have iJ:=ajd wN
  have HQ:Hid (bY Sl (.error e) (ah.agg (.slice none 0 0)) w (.returned (.tuple #[ah.agg (.slice none 0 0),.int .i64 e])) X7):=⟨((HB1.out.trans (HB2.out.mono (by omega))).trans (hb6.mono (by omega))).trans kr,rfl⟩
  clear wN kr rY hsame bQ hb6 HPK
  go_wp2
  exact bodyPost_ret_by (az rfl rfl iJ.out rfl) rfl HQ.out
theorem uY {N B:Nat} (c x:ByteArray) (i:VT) (il:Value) (w:World) (hE:Env w) (hc:c.size≤maxLen) (hx:x.size≤maxLen) (hf:i.bD) (hl:bR B w N il i.list) (hB:B≤w.heap.size) (hnd:nodes i≤90000000):
 Calls Tryz.prog 10 #[.agg #[.string c,.string x,.int .i64 i.kind,.int .u64 i.num,.string i.text,il,.int .i64 i.elem]] w fun r w'=>bY Sl (eZ c x i) (ah.agg (.slice none 0 0)) w r w':=by
 obtain ⟨p,d,rfl⟩:=hl.slice
 obtain ⟨n,hn⟩:∃ n,i.list.length=n:=⟨_,rfl⟩
 rw [hn] at hl ⊢
 obtain ⟨W1,hW1⟩:∃ W1,(w.alloc (.cells #[.string c,.string x,.int .i64 i.kind,.int .u64 i.num,.string i.text,.slice p n d,.int .i64 i.elem] 27)).alloc (.cells #[.int .i64 0,.int .u64 0,.string ⟨#[]⟩,.slice none 0 0,.int .i64 0] 25)=W1:=⟨_,rfl⟩
 obtain ⟨x1,x2,hz1,hb1⟩:=bK (cs:= .string c:: .string x::i.cells (.slice p n d)) (ds:=ah.cells (.slice none 0 0)) hW1
 have l0:=cK x1.1
 have HC:=ajd (QM (N:=N) (B:=B) c x i (.slice p n d) W1 hc hx hf (hl.below (hb1.mono hB)) (by omega) (by omega))
 have X1:=ajd x1
 have X2:=ajd x2
 have HB1:=ajd hb1
 have AJ:=ajd (hE.below hb1)
 have MP:Hid (bR B W1 N (.slice p n d) i.list):=hl.below (hb1.mono hB)
 have HF:=ajd hf
 have VQ:Hid (c.size≤maxLen∧x.size≤maxLen):=⟨hc,hx⟩
 have o7:=ajd hnd
 obtain ⟨C,hC⟩:∃ C,sW c x i=C:=⟨_,rfl⟩
 have HA:Hid (eZ c x i=if C=0 then eB 29 (bX c x i) (recC (ai 3) (aU 3) 29 (bX c x i)) else .error C):=by show _=_;rw [←hC];rfl
 rw [hC] at HC
 clear hl x1 x2 hb1 hE hnd hC hf hc hx hn
 go_enter Tryz.func10,Tryz.ntmps10
 go_wp2_with (fail)
 clear hW1 l0
 refine HC.out.mono ?_
 rintro r w2 ⟨rfl,hb2⟩
 have z2:W1.heap.size≤w2.heap.size:=hb2.size
 have HB2:=ajd hb2
 by_cases hC0:C=0
 ·subst hC0
  have HA2:Hid (eZ c x i=eB 29 (bX c x i) (recC (ai 3) (aU 3) 29 (bX c x i))):=HA.out.trans (if_pos rfl)
  obtain ⟨A,hA⟩:∃ A,eB 29 (bX c x i) (recC (ai 3) (aU 3) 29 (bX c x i))=A:=⟨_,rfl⟩
  have HP:Hid (∀ v,Below w2.heap.size w2 v→Calls Tryz.prog 26 #[.int .i64 29,.slice (some ⟨v.heap.size,0,none⟩) 3 3] (v.alloc (.cells #[.int .i64 20,.int .u64 0,.string c,.slice none 0 0,.int .i64 0,.int .i64 (aQ 19 x).kind,.int .u64 (aQ 19 x).num,.string (aQ 19 x).text,.slice none 0 0,.int .i64 (aQ 19 x).elem,.int .i64 i.kind,.int .u64 i.num,.string i.text,.slice p n d,.int .i64 i.elem] 25)) fun r w'=>bY Sl A (ah.agg (.slice none 0 0)) (v.alloc (.cells #[.int .i64 20,.int .u64 0,.string c,.slice none 0 0,.int .i64 0,.int .i64 (aQ 19 x).kind,.int .u64 (aQ 19 x).num,.string (aQ 19 x).text,.slice none 0 0,.int .i64 (aQ 19 x).elem,.int .i64 i.kind,.int .u64 i.num,.string i.text,.slice p n d,.int .i64 i.elem] 25)) r w'):=fun v hv=>by
   have hv0:Below W1.heap.size W1 v:=HB2.out.trans (hv.mono z2)
   have zv:=hv.size
   have za:(v.alloc (.cells #[.int .i64 20,.int .u64 0,.string c,.slice none 0 0,.int .i64 0,.int .i64 (aQ 19 x).kind,.int .u64 (aQ 19 x).num,.string (aQ 19 x).text,.slice none 0 0,.int .i64 (aQ 19 x).elem,.int .i64 i.kind,.int .u64 i.num,.string i.text,.slice p n d,.int .i64 i.elem] 25)).heap.size=v.heap.size+1:=aO _ _
   have ba:Below v.heap.size v (v.alloc (.cells #[.int .i64 20,.int .u64 0,.string c,.slice none 0 0,.int .i64 0,.int .i64 (aQ 19 x).kind,.int .u64 (aQ 19 x).num,.string (aQ 19 x).text,.slice none 0 0,.int .i64 (aQ 19 x).elem,.int .i64 i.kind,.int .u64 i.num,.string i.text,.slice p n d,.int .i64 i.elem] 25)):=(Below.refl _ _).alloc (Nat.le_refl _) _
   have hL:=E5 (T:=25) (c:=c) (x:=x) (i:=i) VQ.out.1 VQ.out.2 HF.out (MP.out.below (hv0.mono (by omega))) (by omega)
   have:=QN (N:=N+1) (B:=v.heap.size+1) 29 (bX c x i) (.slice (some ⟨v.heap.size,0,none⟩) 3 3) _ ((AJ.out.below hv0).below ba) hL (by omega) (by rw [uV];have:=o7.out;omega)
   rw [hA] at this
   exact this
  have EX:Hid (∀ v,Below w2.heap.size w2 v→eF v (w.heap.size+1) (ah.cells (.slice none 0 0))):=fun v hv=>(X2.out.below HB2.out (by omega)).below hv (by omega)
  have HS:Hid (∀ v,(∀ b,b=w.heap.size→v.heap[b]? =w2.heap[b]?)→((Instr.loadAt 9 (.pointer (some ⟨w.heap.size,0,none⟩))).run Tryz.prog v= .ok (.string c) v∧(Instr.loadAt 9 (.pointer (some ⟨w.heap.size,1,none⟩))).run Tryz.prog v= .ok (.string x) v∧(Instr.loadAt 25 (.pointer (some ⟨w.heap.size,2,none⟩))).run Tryz.prog v= .ok (.agg #[.int .i64 i.kind,.int .u64 i.num,.string i.text,.slice p n d,.int .i64 i.elem]) v)):=fun v hv=>by
   have hx:=(X1.out.below HB2.out (by omega)).heap (hv _ rfl)
   exact ⟨fO (hx.cell (j:=0) rfl),fO (hx.cell (j:=1) rfl),ag (gm hx.1)⟩
  have JO:Hid (∀ v,Below w2.heap.size w2 v→Below w2.heap.size w2 (v.alloc (.cells #[.int .i64 20,.int .u64 0,.string c,.slice none 0 0,.int .i64 0,.int .i64 (aQ 19 x).kind,.int .u64 (aQ 19 x).num,.string (aQ 19 x).text,.slice none 0 0,.int .i64 (aQ 19 x).elem,.int .i64 i.kind,.int .u64 i.num,.string i.text,.slice p n d,.int .i64 i.elem] 25))):=fun v hv=>hv.alloc hv.size _
  have FZ:Hid (∀ v,Below w2.heap.size w2 v→((Instr.loadAt 9 (.pointer (some ⟨w.heap.size,0,none⟩))).run Tryz.prog v= .ok (.string c) v∧(Instr.loadAt 9 (.pointer (some ⟨w.heap.size,1,none⟩))).run Tryz.prog v= .ok (.string x) v∧(Instr.loadAt 25 (.pointer (some ⟨w.heap.size,2,none⟩))).run Tryz.prog v= .ok (.agg #[.int .i64 i.kind,.int .u64 i.num,.string i.text,.slice p n d,.int .i64 i.elem]) v)):=fun v hv=>HS.out v fun b hb=>hv.block b (by omega)
  rw [hA] at HA2
  clear hA HC hb2 HA
  cases A with
  |ok y=>
   go_wp2
   go_region_held3 (fun v=>(Instr.loadAt 9 (.pointer (some ⟨w.heap.size,0,none⟩))).run Tryz.prog v= .ok (.string c) v∧(Instr.loadAt 9 (.pointer (some ⟨w.heap.size,1,none⟩))).run Tryz.prog v= .ok (.string x) v∧(Instr.loadAt 25 (.pointer (some ⟨w.heap.size,2,none⟩))).run Tryz.prog v= .ok (.agg #[.int .i64 i.kind,.int .u64 i.num,.string i.text,.slice p n d,.int .i64 i.elem]) v)
    (first
      |with_reducible exact Y0
      |with_reducible exact FZ.out _ hb6
      |with_reducible exact FZ.out _ (JO.out _ hb4)
      |with_reducible exact FZ.out _ hb4
      |with_reducible exact FZ.out _ (Below.refl _ _).drew)
    ((first
      |(go_at_call 26;refine (HP.out _ hb4).mono ?_;rintro r w6 ⟨lG,Sc,M6,rfl,ZE,hol⟩;obtain ⟨q6,c6,rfl⟩:=hol.slice;have hb6:Below w2.heap.size w2 w6:=(JO.out _ hb4).trans (lG.mono (JO.out _ hb4).size);obtain ⟨X7,hs7,wN,kr,rY,hsame⟩:=bL (EX.out _ hb6) rfl y q6 y.list.length c6;have Y0:=HS.out X7 (fun b hb=>(hsame b (by omega)).trans (hb6.block b (by omega))))
      |(go_at_call 27;refine (Fe x _).mono ?_;rintro r w4 ⟨rfl,E8⟩;have hb4:Below w2.heap.size w2 w4:=(Below.refl _ _).drew.trans E8;clear E8)))
   have zb4:=hb4.size
   have Y6:Below w.heap.size w X7:=((HB1.out.trans (HB2.out.mono (by omega))).trans (hb6.mono (by omega))).trans (kr.mono (by omega))
   have za:(w4.alloc (.cells #[.int .i64 20,.int .u64 0,.string c,.slice none 0 0,.int .i64 0,.int .i64 (aQ 19 x).kind,.int .u64 (aQ 19 x).num,.string (aQ 19 x).text,.slice none 0 0,.int .i64 (aQ 19 x).elem,.int .i64 i.kind,.int .u64 i.num,.string i.text,.slice p n d,.int .i64 i.elem] 25)).heap.size=w4.heap.size+1:=aO _ _
   have HQ:Hid (bY Sl (eZ c x i) (ah.agg (.slice none 0 0)) w (.returned (.tuple #[y.agg (.slice q6 y.list.length c6),.int .i64 0])) X7):=by
    show bY Sl (eZ c x i) (ah.agg (.slice none 0 0)) w _ X7
    rw [HA2.out]
    refine ⟨Y6,_,M6,rfl,ZE,?_⟩
    exact (hol.heap (w':=X7) (by omega) fun b hb hlt=>hsame b (by rcases hb with h|h;exact h.elim;omega)).weak fun b hb _=> .inr (by rcases hb with h|h;exact h.elim;omega)
   have iJ:=ajd wN
   clear wN kr rY hsame hol hb6 lG hb4 Y0 HP HS FZ JO EX Y6 za zb4
   go_wp2
   exact bodyPost_ret_by (az rfl rfl iJ.out rfl) rfl HQ.out
  |error e=>
   go_wp2
   go_region_held3 (fun v=>(Instr.loadAt 9 (.pointer (some ⟨w.heap.size,0,none⟩))).run Tryz.prog v= .ok (.string c) v∧(Instr.loadAt 9 (.pointer (some ⟨w.heap.size,1,none⟩))).run Tryz.prog v= .ok (.string x) v∧(Instr.loadAt 25 (.pointer (some ⟨w.heap.size,2,none⟩))).run Tryz.prog v= .ok (.agg #[.int .i64 i.kind,.int .u64 i.num,.string i.text,.slice p n d,.int .i64 i.elem]) v)
    (first
      |with_reducible exact Y0
      |with_reducible exact FZ.out _ hb6
      |with_reducible exact FZ.out _ (JO.out _ hb4)
      |with_reducible exact FZ.out _ hb4
      |with_reducible exact FZ.out _ (Below.refl _ _).drew)
    ((first
      |(go_at_call 26;refine (HP.out _ hb4).mono ?_;rintro r w6 ⟨lG,hr⟩;simp only at hr;subst hr;have hb6:Below w2.heap.size w2 w6:=(JO.out _ hb4).trans (lG.mono (JO.out _ hb4).size);obtain ⟨X7,hs7,wN,kr,rY,hsame⟩:=bL (EX.out _ hb6) rfl ah none 0 0;have Y0:=HS.out X7 (fun b hb=>(hsame b (by omega)).trans (hb6.block b (by omega))))
      |(go_at_call 27;refine (Fe x _).mono ?_;rintro r w4 ⟨rfl,E8⟩;have hb4:Below w2.heap.size w2 w4:=(Below.refl _ _).drew.trans E8;clear E8)))
   have Y6:Below w.heap.size w X7:=((HB1.out.trans (HB2.out.mono (by omega))).trans (hb6.mono (by omega))).trans (kr.mono (by omega))
   have HQ:Hid (bY Sl (eZ c x i) (ah.agg (.slice none 0 0)) w (.returned (.tuple #[ah.agg (.slice none 0 0),.int .i64 e])) X7):=by
    show bY Sl (eZ c x i) (ah.agg (.slice none 0 0)) w _ X7
    rw [HA2.out]
    exact ⟨Y6,rfl⟩
   have iJ:=ajd wN
   clear wN kr rY hsame hb6 lG hb4 Y0 HP HS FZ JO EX Y6
   go_wp2
   exact bodyPost_ret_by (az rfl rfl iJ.out rfl) rfl HQ.out
 ·have hcb:(C !=0)=true:=by simp [hC0]
  obtain ⟨X6,hs6,NM,hb6,xG,_⟩:=bL (X2.out.below hb2 (by omega)) rfl ah none 0 0
  replace hs6:(Instr.storeAt 25 (.pointer (some ⟨w.heap.size+1,0,none⟩)) (.agg #[.int .i64 0,.int .u64 0,.string ⟨#[]⟩,.slice none 0 0,.int .i64 0])).run Tryz.prog w2= .ok () X6:=hs6
  have iJ:=ajd NM
  have HQ:Hid (bY Sl (eZ c x i) (ah.agg (.slice none 0 0)) w (.returned (.tuple #[ah.agg (.slice none 0 0),.int .i64 C])) X6):=by
   show bY Sl (eZ c x i) (ah.agg (.slice none 0 0)) w _ X6
   rw [HA.out,if_neg hC0]
   exact ⟨(HB1.out.trans (HB2.out.mono (by omega))).trans (hb6.mono (by omega)),rfl⟩
  clear NM hb6 xG hC0 hb2 HC HA
  go_wp2
  exact bodyPost_ret_by (az rfl rfl iJ.out rfl) rfl HQ.out
end Go.Proofs.YtmldhjoolebjoaaGreatDoor.Va
namespace Go.Proofs.YtmldhjoolebjoaaGreatDoor.Va
open Go Go.RowKit Nu
attribute [-go_sem] Go.Instr.loadAt Go.Instr.storeAt
theorem H7 {w:World} {a:Addr} {v:Value} (h:w.cell? a=some v):(Instr.loadAt 22 (.pointer (some a))).run Tryz.prog w= .ok v w:=by
 have:=Tryz.underlying22
 have:=Tryz.sizeOf22
 have:Go.Instr.loadAt=Go.Instr.loadAt:=rfl
 unfold Go.Instr.loadAt
 go_simp
theorem Ff {w:World} {b o:Nat} {n:Int} (h:w.there b o 1):(Instr.storeAt 22 (.pointer (some ⟨b,o,none⟩)) (.int .u64 n)).run Tryz.prog w= .ok () (w.setCells b o [.int .u64 n]):=by
 have h0:=h 0 (by omega)
 obtain ⟨u,hu⟩:=Option.isSome_iff_exists.1 h0.1
 have hf:=h0.2
 rw [Nat.add_zero] at hu hf
 have hm:(Instr.storeAt 22 (.pointer (some ⟨b,o,none⟩)) (.int .u64 n)).run Tryz.prog w= .ok () (w.setCell ⟨b,o,none⟩ (.int .u64 n)):=by
  have:=Tryz.underlying22
  have:=Tryz.sizeOf22
  have:Go.Instr.storeAt=Go.Instr.storeAt:=rfl
  unfold Go.Instr.storeAt
  go_simp
 exact hm
def afX (N:Nat):Prop:=∀ (B:Nat) (t:VT) (lv:Value) (w:World),t.bD→bR B w N lv t.list→B≤w.heap.size→nodes t≤900000000→
    Calls Tryz.prog 7 #[t.agg lv] w fun r w'=>∃ gM M,r= .returned ((fQ t).agg gM)∧bu (fun b=>w.heap.size≤b) w' M gM (fQ t).list∧Below w.heap.size w w'
theorem abq:∀ N,afX N:=by
 intro N
 induction N with
 |zero=>intro B t lv w _ h;exact h.elim
 |succ N ih=>
  intro B t lv w hf hl hB hn
  have HS:=ajd ih
  have o7:=ajd hn
  obtain ⟨p,c,rfl⟩:=hl.slice
  have hlen:t.list.length≤900000000:=by have:=fZ t.list;have:=aX t;omega
  obtain ⟨W1,hW1⟩:∃ W1,(w.alloc (.cells #[.int .i64 t.kind,.int .u64 t.num,.string t.text,.slice p t.list.length c,.int .i64 t.elem] 25)).alloc (.cells #[.int .i64 0,.int .u64 0,.string ⟨#[]⟩,.slice none 0 0,.int .i64 0] 25)=W1:=⟨_,rfl⟩
  obtain ⟨x1,x2,hz1,hb1⟩:=bK (cs:=t.cells (.slice p t.list.length c)) (ds:=ah.cells (.slice none 0 0)) hW1
  have l0:=H7 (x1.cell (j:=1) rfl)
  have hst:=Ff (n:=C9 t.num) (x1.part (o:=1) (n:=1) (by show 1+1≤5;omega))
  obtain ⟨W2,hW2⟩:∃ W2,W1.setCells w.heap.size 1 [.int .u64 (C9 t.num)]=W2:=⟨_,rfl⟩
  obtain ⟨l,hl'⟩:∃ l,t.list=l:=⟨_,rfl⟩
  have y1:eF W2 w.heap.size ((VT.mk t.kind (C9 t.num) t.text t.elem t.list).cells (.slice p t.list.length c)):=by
   rw [←hW2]
   refine x1.set (o:=1) (by show 1+1≤5;omega) rfl (fun j u hu=>?_) (fun j hj=>?_)
   ·match j,hu with
    |0,hu=>exact hu
   ·match j,hj with
    |0,_=>rfl
    |1,h=>simp at h
    |2,_=>rfl
    |3,_=>rfl
    |4,_=>rfl
    |j+5,_=>rfl
  have y2:eF W2 (w.heap.size+1) (ah.cells (.slice none 0 0)):=x2.heap (by rw [←hW2];exact aA (by omega) _ _)
  have yb:Below w.heap.size w W2:=by rw [←hW2];exact hb1.trans (au (Nat.le_refl _) _ _)
  have hz2:W2.heap.size=w.heap.size+2:=by rw [←hW2,aC];exact hz1
  rw [hW2] at hst
  have HL:=ajd (hl.below (yb.mono hB))
  have Y1:=ajd y1
  have Y2:=ajd y2
  have YB:=ajd yb
  have HF:=ajd hf
  rw [hl'] at HL Y1 hlen
  have HLL:=ajd hl'
  obtain ⟨m,hm⟩:∃ m,l.length=m:=⟨_,rfl⟩
  have HM:=ajd hm
  rw [hm] at hlen HL Y1
  rw [hl',hm] at hW1
  rw [hl',hm]
  change (Instr.storeAt 22 (.pointer (some ⟨w.heap.size,1,none⟩)) (.int .u64 (bits .xor .u64 t.num 1))).run Tryz.prog W1= .ok () W2 at hst
  have HT0:Hid (aj l≤900000000):=by show _≤_;rw [←hl'];have:=aX t;have:=o7.out;omega
  clear hl ih hn hm hf x1 x2 hb1 y1 y2 yb hl' hW2
  obtain ⟨i0,hi0,hi1,hi2,hi3⟩:=info_parts uL
  go_enter Tryz.func7,Tryz.ntmps7
  go_wp2
  clear hW1 l0 hst
  go_loopw [3,4] (fun sv iv wr=>∃ (i:Nat) (items:List (VT×Value)),iv= .int .i64 i∧i≤m∧Hid (items.map (·.1)=(gP l).take i)∧Hid (mG W2.heap.size 25 (fun b=>W2.heap.size≤b) W2 items sv wr)) (fun _ iv _=>m-(intOf iv).toNat)
  case atStart=>exact ⟨0,[],rfl,Nat.zero_le _,(by show []=_;simp),mG.start W2⟩
  case round=>
   obtain ⟨i,items,rfl,hi,HT,gK⟩:=hrel
   have rW:items.length=i:=by
    have:=congrArg List.length HT.out
    simp only [List.length_map,List.length_take,iG] at this
    have h1:=HM.out
    omega
   have Y1r:=Y1.out.below gK.out.below (by omega)
   have l3:=aF (Y1r.cell (j:=3) rfl)
   by_cases hlt:i<m
   ·obtain ⟨x,hx⟩:∃ x,l[i]? =some x:=⟨_,List.getElem?_eq_getElem (by rw [HM.out];exact hlt)⟩
    rcases HL.out with ⟨h0,_⟩|⟨b,off,c',hp,jy,_,hel⟩
    ·rw [h0] at hx;simp at hx
    rw [HM.out] at hp
    simp only [Value.slice.injEq] at hp
    obtain ⟨rfl, -,rfl⟩:=hp
    obtain ⟨xf,xlv,hat,hxl⟩:=hel i x hx
    have hbw:Below B W2 wr:=gK.out.below.mono (by omega)
    have le:=ag (dW (hat.heap (gK.out.below.block b (by omega))))
    have hnx:nodes x≤900000000:=by
     have h1:=pV hx
     have:=HT0.out
     omega
    have TG:=gK.out.Bw
    have VQ:=ajd (HS.out B x xlv wr xf (hxl.below hbw) (by omega) hnx)
    have YG:=ajd (Db xf)
    have uP:=ajd rW
    have ZF:Hid (∀ y:VT×Value,y.1=fQ x→(items++[y]).map (·.1)=(gP l).take (i+1)):=fun y hy=>by
     rw [List.map_append,HT.out,Da hx]
     simp [hy]
    obtain ⟨z,hz⟩:∃ z,fQ x=z:=⟨_,rfl⟩
    rw [hz] at VQ YG ZF
    have ac8:(0:Int)≤(i:Int):=by omega
    have ac9:(i:Int)<(m:Int):=by omega
    clear hx hel hat hxl hbw xf hnx Y1r hz
    go_wp2_with (fail)
    clear le l3
    refine VQ.out.mono ?_
    rintro r w2 ⟨gM,M,rfl,hL,hb2⟩
    obtain ⟨q,d,rfl⟩:=hL.slice
    obtain ⟨Wa,hWa⟩:∃ Wa,w2.alloc (.cells #[.int .i64 0,.int .u64 0,.string ⟨#[]⟩,.slice none 0 0,.int .i64 0] 25)=Wa:=⟨_,rfl⟩
    obtain ⟨xa,hza,hba⟩:=aH (cs:=ah.cells (.slice none 0 0)) hWa
    obtain ⟨Wb,AL,xb,zy,hzb⟩:=fo xa rfl z q z.list.length d
    have hsz2:=hb2.size
    have hbb:Below w2.heap.size w2 Wb:=hba.trans (zy.mono (by omega))
    have oz:Hid (Below wr.heap.size wr Wb):=hb2.trans (hbb.mono hsz2)
    have ld:=ag xb.1
    have Qp:=ajd (gK.out.keep oz.out)
    have zc:Below Wb.heap.size Wb (Wb.alloc (.cells #[.int .i64 z.kind,.int .u64 z.num,.string z.text,.slice q z.list.length d,.int .i64 z.elem] 25)):=(Below.refl _ _).alloc (Nat.le_refl _) _
    have zl:=ajd (Qp.out.keep zc)
    obtain ⟨sp,sc,rfl⟩:=gK.out.form
    rw [rW] at gK Qp zl ⊢
    have hrow:=zl.out.row
    rw [rW] at hrow
    have zm:=zl.out.Bw
    have HYA:Hid (bu (fun b=>(fun b=>W2.heap.size≤b) b∧(Value.slice sp i sc).ownBlock≠some b) (Wb.alloc (.cells #[.int .i64 z.kind,.int .u64 z.num,.string z.text,.slice q z.list.length d,.int .i64 z.elem] 25)) M (.slice q z.list.length d) z.list):=
     (((hL.below hbb).below zc).weak fun b hb _=>⟨by show W2.heap.size≤b;omega,fun e=>by have:=(gK.out.iL e).2;omega⟩)
    have hmx:i+1≤maxLen:=by unfold maxLen;omega
    have hmb:(i+1)*64≤140737488355328:=by omega
    clear hL hb2 hba hbb zy xa xb zc hza hzb hsz2 VQ rW
    go_wp2_with (at_builtin;go_must (refine wpList_append_own_at _ rfl _ _ 23 rfl W2.heap.size 25 i0 _ 5 64 Tryz.underlying23 hi0 hi1 hi2 hi3 rfl (by decide) (.slice sp i sc) i (bE items) rfl hrow ⟨Wb.heap.size,0,none⟩ 1 1 (z.cells (.slice q z.list.length d)) rfl rfl (pg Wb _ _ _) (pq _ _ _ _) hmx hmb zm ?_;intro v' w6 hown6 gJ qH qI))
    rw [←uP.out] at hown6
    have YI:Hid (mG W2.heap.size 25 (fun b=>W2.heap.size≤b) W2 (items++[(z,.slice q z.list.length d)]) v' w6):=zl.out.push (x:=(z,.slice q z.list.length d)) YG.out HYA.out hown6 gJ qI
    have YJ:=ZF.out (z,.slice q z.list.length d) rfl
    clear hown6 gJ qH qI hrow zm
    go_roundw
    case rel=>exact ⟨i+1,_,by go_num,by omega,YJ,YI.out⟩
    case measure=>simp [intOf];omega
   ·obtain rfl:i=m:=by omega
    obtain ⟨M,hM⟩:=gK.out.vX (fun b hb=>hb) (by unfold maxLen;omega)
    rw [HT.out,List.take_of_length_le (by rw [iG];exact Nat.le_of_eq HM.out)] at hM
    obtain ⟨sp,sc,rfl⟩:=gK.out.form
    rw [rW] at hM ⊢
    have TG:=gK.out.Bw
    have Y2r:=Y2.out.below gK.out.below (by omega)
    have hst:=kK (a:=sp) (n:=i) (c:=sc) (Y1r.part (o:=3) (n:=1) (by show 3+1≤5;omega))
    obtain ⟨W3,hW3⟩:∃ W3,wr.setCells w.heap.size 3 [.slice sp i sc]=W3:=⟨_,rfl⟩
    have v1:eF W3 w.heap.size ((fQ t).cells (.slice sp i sc)):=by
     rw [←hW3,pW]
     refine Y1r.set (o:=3) (by show 3+1≤5;omega) rfl (fun j u hu=>?_) (fun j hj=>?_)
     ·match j,hu with
      |0,hu=>exact hu
     ·match j,hj with
      |0,_=>rfl
      |1,_=>rfl
      |2,_=>rfl
      |3,h=>simp at h
      |4,_=>rfl
      |j+5,_=>rfl
    have v2:eF W3 (w.heap.size+1) (ah.cells (.slice none 0 0)):=Y2r.heap (by rw [←hW3];exact aA (by omega) _ _)
    have vb:Below w.heap.size w W3:=by rw [←hW3];exact (YB.out.trans (gK.out.below.mono (by omega))).trans (au (Nat.le_refl _) _ _)
    have z3:W3.heap.size=wr.heap.size:=by rw [←hW3];exact aC _ _ _ _
    have L3:bu (fun b=>W2.heap.size≤b) W3 M (.slice sp i sc) (gP l):=hM.heap (by omega) fun b hb _=>by rw [←hW3];exact aA (by omega) _ _
    rw [hW3] at hst
    have l5:=ag v1.1
    have kL:=aD (t:=fQ t) (a:=sp) (n:=i) (c:=sc) (v2.part (o:=0) (n:=5) (Nat.le_refl _))
    have v3:=v2.all (vs:=(fQ t).cells (.slice sp i sc)) rfl
    have vb2:Below w.heap.size w (W3.setCells (w.heap.size+1) 0 ((fQ t).cells (.slice sp i sc))):=vb.trans (au (by omega) _ _)
    obtain ⟨X,hX⟩:∃ X,W3.setCells (w.heap.size+1) 0 ((fQ t).cells (.slice sp i sc))=X:=⟨_,rfl⟩
    have L4:bu (fun b=>w.heap.size≤b) X M (.slice sp i sc) (gP l):=(L3.heap (w':=X) (by rw [←hX,aC];exact Nat.le_refl _) fun b hb _=>by rw [←hX];exact aA (by omega) _ _).weak fun b hb _=>by omega
    rw [hX] at kL v3 vb2
    have hTL:(fQ t).list=gP l:=by rw [pW,←HLL.out];rfl
    have HFF:Hid (bu (fun b=>w.heap.size≤b) X M (.slice sp i sc) (fQ t).list∧Below w.heap.size w X):=⟨by rw [hTL];exact L4,vb2⟩
    have iJ:=ajd (bB v3.1)
    clear hM v1 v2 v3 vb vb2 hX hW3 L3 L4 z3 hTL Y1r Y2r
    go_wp2
    exact bodyPost_ret_by (dR rfl rfl iJ.out) rfl ⟨_,M,rfl,HFF.out⟩
def afZ (N:Nat):Prop:=∀ (M lo hi:Nat) (ts:List VT) (v lv:Value) (w:World),aW w N lo hi v ts→bu (fun b=>b<lo∨hi≤b) w M lv (gP ts)→hi≤w.heap.size→
    Calls Tryz.prog 8 #[v,lv] w fun r w'=>r= .returned (.tuple #[])∧aW w' N lo hi v (gP ts)∧Apart lo hi w w'
theorem af0:∀ N,afZ N:=by
 intro N
 induction N with
 |zero=>intro M lo hi ts v lv w h;exact h.elim
 |succ N ih=>
  intro M lo hi ts v lv w hl ho hs
  have HS:=ajd ih
  obtain ⟨p,c,rfl⟩:=ho.slice
  have HO:=ajd ho
  have HL:=ajd hl
  obtain ⟨b0,hv,_,_,hlen,_⟩:=rZ hl
  subst hv
  obtain ⟨m,hm⟩:∃ m,ts.length=m:=⟨_,rfl⟩
  have HM:=ajd hm
  rw [iG,hm] at HO
  rw [iG,hm]
  rw [hm] at HL hlen
  have hlh:=hl.le
  clear hl ho ih hm
  go_enter Tryz.func8,Tryz.ntmps8
  go_wp2
  go_loopw [4] (fun iv wr=>∃ (i:Nat),iv= .int .i64 i∧i≤m∧Hid (aW wr (N+1) lo hi (.slice (some ⟨b0,0,none⟩) m (m+3)) (wD ts i))∧Hid (Apart lo hi w wr)) (fun iv _=>m-(intOf iv).toNat)
  case atStart=>exact ⟨0,rfl,Nat.zero_le _,(by rw [Oz];exact HL.out),Apart.refl _ _ _⟩
  case round=>
   obtain ⟨i,rfl,hile,HR,HA⟩:=hrel
   have hsr:hi≤wr.heap.size:=by have:=HA.out.size;omega
   by_cases hlt:i<m
   ·obtain ⟨t,ht⟩:∃ t,ts[i]? =some t:=⟨_,List.getElem?_eq_getElem (by rw [HM.out];exact hlt)⟩
    obtain ⟨b,x,y,lvt,hvb,hlo,hbx,hyh,hf,hat,hsub,hth,hset⟩:=HR.out.set (Wx ht) hsr
    have hbb:b0=b:=by simpa using congrArg (fun v=>match v with|Value.slice (some a) _ _=>a.block|_=>0) hvb
    subst hbb
    have hxy:=hsub.le
    have HOr:bu (fun b=>b<lo∨hi≤b) wr M (.slice p m c) (gP ts):=HO.out.heap HA.out.size fun b hb hlt=>HA.out.block b hlt hb
    have hzt:(gP ts)[i]? =some (fQ t):=by rw [vo,List.getElem?_map,ht];rfl
    have hzl:(fQ t).list=gP t.list:=by rw [pW];rfl
    obtain ⟨M',hM'⟩:∃ M',M=M'+1:=by
     cases M with
     |zero=>exact HOr.elim
     |succ k=>exact ⟨k,rfl⟩
    rw [hM'] at HOr
    rcases HOr with ⟨h0,_⟩|⟨b1,off,c',hp,hP,hb1,_,hel⟩
    ·rw [h0] at hzt;simp at hzt
    simp only [Value.slice.injEq] at hp
    obtain ⟨rfl, -,rfl⟩:=hp
    obtain ⟨zf,lvu,hau,hlu⟩:=hel i _ hzt
    obtain ⟨z,hz⟩:∃ z,fQ t=z:=⟨_,rfl⟩
    have hnx:=OA ht
    rw [hz] at zf hau hlu hzl hnx
    obtain ⟨qt,nt,ct,hqt⟩:∃ q n c,lvt= .slice q n c:=by obtain ⟨q,c,h⟩:=(hsub.vX (B:=hi) hyh).slice;exact ⟨_,_,_,h⟩
    obtain ⟨qu,cu,hqu⟩:=hlu.slice
    subst hqt hqu
    have l1:=aF hat.list
    have l2:=aF hau.list
    have HCO:=ajd (HS.out M' x y t.list _ _ wr hsub (by rw [←hzl];exact hlu.weak fun b hb _=>by rcases hb with h|h<;>omega) (by omega))
    have HAU:=ajd hau
    have HSE:=ajd hset
    have HTH:=ajd hth
    have HZF:=ajd zf
    have HNX:=ajd hnx
    have HZL:=ajd hzl
    have hi0:(0:Int)≤(i:Int):=by omega
    have hi1:(i:Int)<(m:Int):=by omega
    have hi3:(i:Int)<(m:Int)+3:=by omega
    clear hat hsub hth hset hel hau hlu zf hnx hzl hz hzt hf hvb
    go_wp2_with (fail)
    clear l1 l2
    refine HCO.out.mono ?_
    rintro r w2 ⟨rfl,hl2,ha2⟩
    have hz2:=ha2.size
    have le:=ag (dW (HAU.out.apart ha2 hb1 (by rcases hP with h|h<;>omega)))
    obtain ⟨Wa,hWa⟩:∃ Wa,w2.alloc (.cells #[.int .i64 0,.int .u64 0,.string ⟨#[]⟩,.slice none 0 0,.int .i64 0] 25)=Wa:=⟨_,rfl⟩
    obtain ⟨xa,hza,hba⟩:=aH (cs:=ah.cells (.slice none 0 0)) hWa
    obtain ⟨Wb,AL,xb,zy,hzb⟩:=fo xa rfl z qu z.list.length cu
    have Qf:=kK (a:=qt) (n:=nt) (c:=ct) (xb.part (o:=3) (n:=1) (by show 3+1≤5;omega))
    obtain ⟨Wc,hWc⟩:∃ Wc,Wb.setCells w2.heap.size 3 [.slice qt nt ct]=Wc:=⟨_,rfl⟩
    have xc:eF Wc w2.heap.size (z.cells (.slice qt nt ct)):=by
     rw [←hWc]
     refine xb.set (o:=3) (by show 3+1≤5;omega) rfl (fun j u hu=>?_) (fun j hj=>?_)
     ·match j,hu with
      |0,hu=>exact hu
     ·match j,hj with
      |0,_=>rfl
      |1,_=>rfl
      |2,_=>rfl
      |3,h=>simp at h
      |4,_=>rfl
      |j+5,_=>rfl
    have hbc:Below w2.heap.size w2 Wc:=by rw [←hWc];exact (hba.trans zy).trans (au (Nat.le_refl _) _ _)
    rw [hWc] at Qf
    have ld:=ag xc.1
    have hac:Apart x y wr Wc:=ha2.trans (Apart.of_below hbc (Nat.le_refl _))
    have aiG:=aD (t:=z) (a:=qt) (n:=nt) (c:=ct) (HTH.out Wc hac)
    have HR2:=HSE.out Wc z hac HZF.out (by rw [HZL.out];exact hl2.below (by omega) hbc)
    have HA2:Apart lo hi w (Wc.setCells b0 (i*5) (z.cells (.slice qt nt ct))):=HA.out.trans ((hac.wide (by omega) hyh).trans (eP hlo (by omega) _ _ _ (Apart.refl _ _ _)))
    rw [HNX.out] at HR2
    obtain ⟨X,hX⟩:∃ X,Wc.setCells b0 (i*5) (z.cells (.slice qt nt ct))=X:=⟨_,rfl⟩
    rw [hX] at aiG HR2 HA2
    have HR3:=ajd HR2
    have HA3:=ajd HA2
    clear HR2 HA2 hX hac hbc xc xb xa hba zy hza hzb hl2 ha2 hWc HCO HAU HSE HTH
    go_wp2
    go_roundw
    case rel=>exact ⟨i+1,by go_num,by omega,HR3.out,HA3.out⟩
    case measure=>simp [intOf];omega
   ·obtain rfl:i=m:=by omega
    have HF:Hid (aW wr (N+1) lo hi (.slice (some ⟨b0,0,none⟩) i (i+3)) (gP ts)):=by
     have:=HR.out
     rw [←HM.out,Tc] at this
     rw [←HM.out];exact this
    go_wp2
    go_end0
    exact ⟨rfl,HF.out,HA.out⟩
abbrev jO (b n:Nat):Value:= .slice (some ⟨b,0,none⟩) n (n+3)
def oG (c x:ByteArray) (i:VT) (il:Value):List Value:= .string c:: .string x::i.cells il
theorem iA (c x:ByteArray) (i:VT) (il:Value):(oG c x i il).length=7:=rfl
theorem mY {w:World} {b o:Nat} {c x:ByteArray} {i:VT} {a:Option Addr} {n d:Nat} (h:w.there b o 7):(Instr.storeAt 27 (.pointer (some ⟨b,o,none⟩)) (.agg #[.string c,.string x,.int .i64 i.kind,.int .u64 i.num,.string i.text,.slice a n d,.int .i64 i.elem])).run Tryz.prog w= .ok () (w.setCells b o (oG c x i (.slice a n d))):=
 Go.run_storeAt_mid w b o 27 (oG c x i (.slice a n d)).toArray h (by kernel_rfl) (by simp [oG,VT.cells,Value.oneCell'])
theorem Fg {w:World} {b:Nat} {c x:ByteArray} {i:VT} {il:Value} (h:Cells w b 0 (oG c x i il)):(loadVar 27 ⟨b,0,none⟩).run Tryz.prog w= .ok (.agg #[.string c,.string x,.int .i64 i.kind,.int .u64 i.num,.string i.text,il,.int .i64 i.elem]) w:=
 Go.run_loadVar_mid w b 0 27 (oG c x i il) _ h Tryz.underlying27 rfl (by kernel_rfl)
theorem Fh {N B:Nat} (c x:ByteArray) (i:VT) (il:Value) (w:World) (hl:bR B w N il i.list) (hs:VZ i.list) (hB:B≤w.heap.size):
 Calls Tryz.prog 6 #[.agg #[.string c,.string x,.int .i64 i.kind,.int .u64 i.num,.string i.text,il,.int .i64 i.elem]] w fun r w'=>∃ b,r= .returned (.agg #[.string c,.string x,.int .i64 i.kind,.int .u64 i.num,.string i.text,jO b i.list.length,.int .i64 i.elem])∧aW w' N (w.heap.size+2) w'.heap.size (jO b i.list.length) i.list∧Below w.heap.size w w':=by
 obtain ⟨W1,hW1⟩:∃ W1,(w.alloc (.cells #[.string c,.string x,.int .i64 i.kind,.int .u64 i.num,.string i.text,il,.int .i64 i.elem] 27)).alloc (.cells #[.string ⟨#[]⟩,.string ⟨#[]⟩,.int .i64 0,.int .u64 0,.string ⟨#[]⟩,.slice none 0 0,.int .i64 0] 27)=W1:=⟨_,rfl⟩
 obtain ⟨x1,x2,hz1,hb1⟩:=bK (cs:=oG c x i il) (ds:=oG ⟨#[]⟩ ⟨#[]⟩ ah (.slice none 0 0)) hW1
 have l0:=ag (gm x1.1)
 have HC:=ajd (RS (aeM N) B i.kind i.num i.text i.elem i.list il W1 (hl.below (hb1.mono hB)) hs (by omega))
 have X1:=ajd x1
 have X2:=ajd x2
 have HB1:=ajd hb1
 clear hl x1 x2 hb1
 go_enter Tryz.func6,Tryz.ntmps6
 go_wp2_with (fail)
 clear hW1 l0
 refine HC.out.mono ?_
 rintro r w2 ⟨v,rfl,hL,hb2⟩
 obtain ⟨b,rfl⟩:=hL.form
 have xI:=X1.out.below hb2 (by omega)
 have Au:=X2.out.below hb2 (by omega)
 have hst:=aD (t:=i) (a:=some ⟨b,0,none⟩) (n:=i.list.length) (c:=i.list.length+3) (xI.part (o:=2) (n:=5) (by rw [iA];omega))
 obtain ⟨W3,hW3⟩:∃ W3,w2.setCells w.heap.size 2 (i.cells (.slice (some ⟨b,0,none⟩) i.list.length (i.list.length+3)))=W3:=⟨_,rfl⟩
 have y1:eF W3 w.heap.size (oG c x i (.slice (some ⟨b,0,none⟩) i.list.length (i.list.length+3))):=by
  rw [←hW3]
  refine xI.set (o:=2) (by rw [iA];show 2+5≤7;omega) rfl (fun j u hu=>?_) (fun j hj=>?_)
  ·rw [show 2+j=j+2 by omega];exact hu
  ·match j,hj with
   |0,_=>rfl
   |1,_=>rfl
   |j+2,h=>
    have h:2+5≤j+2:=by rcases h with h|h;omega;exact h
    rw [List.getElem?_eq_none (by rw [iA];omega),List.getElem?_eq_none (by rw [iA];omega)]
 have y2:eF W3 (w.heap.size+1) (oG ⟨#[]⟩ ⟨#[]⟩ ah (.slice none 0 0)):=Au.heap (by rw [←hW3];exact aA (by omega) _ _)
 have Ta:Apart w.heap.size (w.heap.size+2) w2 W3:=by rw [←hW3];exact eP (Nat.le_refl _) (by omega) _ _ _ (Apart.refl _ _ _)
 have yb:Below w.heap.size w W3:=by rw [←hW3];exact (HB1.out.trans (hb2.mono (by omega))).trans (au (Nat.le_refl _) _ _)
 have z3:W3.heap.size=w2.heap.size:=by rw [←hW3];exact aC _ _ _ _
 rw [hW3] at hst
 have l5:=cK y1.1
 have kL:=mY (c:=c) (x:=x) (i:=i) (a:=some ⟨b,0,none⟩) (n:=i.list.length) (d:=i.list.length+3) (y2.part (o:=0) (n:=7) (by rw [iA];omega))
 have y3:=y2.all (vs:=oG c x i (.slice (some ⟨b,0,none⟩) i.list.length (i.list.length+3))) rfl
 obtain ⟨X,hX⟩:∃ X,W3.setCells (w.heap.size+1) 0 (oG c x i (.slice (some ⟨b,0,none⟩) i.list.length (i.list.length+3)))=X:=⟨_,rfl⟩
 have hle:=hL.le
 have HF:Hid (aW X N (w.heap.size+2) X.heap.size (jO b i.list.length) i.list∧Below w.heap.size w X):=by
  have ha4:Apart w.heap.size (w.heap.size+2) W3 X:=by rw [←hX];exact eP (by omega) (by omega) _ _ _ (Apart.refl _ _ _)
  have Qs:X.heap.size=w2.heap.size:=by rw [←hX,aC];exact z3
  have:=(hL.apart Ta (Nat.le_refl _) (.inr (by omega))).apart ha4 (by omega) (.inr (by omega))
  rw [Qs,←hz1]
  exact ⟨this,by rw [←hX];exact yb.trans (au (by omega) _ _)⟩
 rw [hX] at kL y3
 have iJ:=ajd (Fg y3.1)
 clear hL hb2 xI Au y1 y2 y3 yb hX hW3 z3 HC Ta hle
 go_wp2
 exact bodyPost_ret_by (dR rfl rfl iJ.out) rfl ⟨b,rfl,HF.out⟩
theorem Fj {N M lo hi:Nat} (c x:ByteArray) (i:VT) (v lv:Value) (w:World) (hl:aW w N lo hi v i.list) (ho:bu (aaA lo hi) w M lv i.list) (hhi:hi≤w.heap.size):
 Calls Tryz.prog 12 #[.agg #[.string c,.string x,.int .i64 i.kind,.int .u64 i.num,.string i.text,v,.int .i64 i.elem],.agg #[.string c,.string x,.int .i64 i.kind,.int .u64 i.num,.string i.text,lv,.int .i64 i.elem]] w fun r w'=>r= .returned (.bool true)∧Apart lo hi w w':=by
 obtain ⟨W1,hW1⟩:∃ W1,(w.alloc (.cells #[.string c,.string x,.int .i64 i.kind,.int .u64 i.num,.string i.text,v,.int .i64 i.elem] 27)).alloc (.cells #[.string c,.string x,.int .i64 i.kind,.int .u64 i.num,.string i.text,lv,.int .i64 i.elem] 27)=W1:=⟨_,rfl⟩
 obtain ⟨x1,x2,hz1,hb1⟩:=bK (cs:=oG c x i v) (ds:=oG c x i lv) hW1
 have hle:=hl.le
 have hb1':Below w.heap.size w W1:=hb1
 have l1:=ag (gm x1.1)
 have l2:=ag (gm x2.1)
 have HC:=ajd (ML (acV N) M lo hi i.kind i.num i.text i.elem i.list v lv W1 (hl.below hhi hb1') (ho.below hb1') (by omega))
 have HX:Hid (∀ u,Apart lo hi W1 u→(Cells u w.heap.size 0 (oG c x i v)∧Cells u (w.heap.size+1) 0 (oG c x i lv))∧Apart lo hi w u):=fun u hu=>⟨⟨x1.1.apart hu (by omega) (.inr (by omega)),x2.1.apart hu (by omega) (.inr (by omega))⟩,(Apart.of_below hb1' (Nat.le_refl _)).trans hu⟩
 clear hl ho hb1 hb1' x1 x2 hle
 go_enter Tryz.func12,Tryz.ntmps12
 go_wp2_with (fail)
 clear hW1 l1 l2
 refine HC.out.mono ?_
 rintro r w2 ⟨rfl,ha⟩
 obtain ⟨⟨k1,k2⟩,ha2⟩:=HX.out w2 ha
 have m1:=fO (k1 0 _ rfl)
 have m2:=fO (k2 0 _ rfl)
 have m3:=fO (k1 1 _ rfl)
 have m4:=fO (k2 1 _ rfl)
 have HA:=ajd ha2
 clear ha ha2 k1 k2 HX HC
 go_wp2
 go_ret
 exact ⟨ay (by simp),HA.out⟩
end Go.Proofs.YtmldhjoolebjoaaGreatDoor.Va
namespace Go.Proofs.YtmldhjoolebjoaaGreatDoor.Va
open Go Go.RowKit Nu Uc
theorem Fp {w:World} {a:Addr} {v:Value} (h:w.cell? a=some v):(Instr.loadAt 33 (.pointer (some a))).run Tryz.prog w= .ok v w:=by
 have:=Tryz.underlying33
 have:=Tryz.sizeOf33
 go_simp
theorem VA {v:World} {b o:Nat} {u:Value} (p:Option Addr) (n c:Nat) (hc:v.cell? ⟨b,o,none⟩=some u) (hf:v.frozen? ⟨b,o,none⟩=false):(Instr.storeAt 33 (.pointer (some ⟨b,o,none⟩)) (.slice p n c)).run Tryz.prog v= .ok () (v.setCell ⟨b,o,none⟩ (.slice p n c)):=by
 have:=Tryz.underlying33
 have:=Tryz.sizeOf33
 go_simp
theorem Zj:(Tryz.prog.info? 23).map (fun i=>(i.zero,i.size,i.bytes))=some (some (.slice none 0 0),1,24):=by kernel_rfl
attribute [-go_sem] Go.Instr.loadAt Go.Instr.storeAt
abbrev QO:TypeId:=23
theorem Zk {v:World} {bb:Nat} {u:Value} (hc:Cells v bb 0 [u]) (ht:v.there bb 0 1) (p:Option Addr) (n c:Nat):∃ X,(Instr.storeAt 33 (.pointer (some ⟨bb,0,none⟩)) (.slice p n c)).run Tryz.prog v= .ok () X∧Cells X bb 0 [.slice p n c]∧X.there bb 0 1∧v.grownBy X (some bb):=by
 have h0:=ht 0 (by omega)
 rw [Nat.zero_add] at h0
 have h:=VA p n c (hc 0 u rfl) h0.2
 refine ⟨v.setCells bb 0 [.slice p n c],h,fun j x hx=>?_,World.there_setCells ht _ _ _,gz bb _ _ v⟩
 exact jZ (vs:=[.slice p n c]) ht hx
def ace (N:Nat):Prop:=∀ (bb lo:Nat) (bv v:Value) (rows us:List Value) (ts:List VT) (w:World),lW QO w bb lo bv rows→OL w N v ts us→(∀ u∈us,∀ b,u.ownBlock=some b→b<lo∧b≠bb)→rows.length+aj ts+1≤1000000000→
    Calls Tryz.prog 29 #[.pointer (some ⟨bb,0,none⟩),v] w fun r w'=>r= .returned (.tuple #[])∧∃ bv',lW QO w' bb lo bv' (rows++us)∧Bk bb lo w w'
theorem zC:∀ {n:Nat} {w:World} {v:Value} {ts:List VT} {us:List Value},OL w n v ts us→us.length≤aj ts+1
 |0,_,_,_,_,h=>h.elim
 |n+1,w,v,ts,us,h=>by
  rcases h with ⟨rfl,_,rfl⟩|⟨g,c,gy,_,_,_,_,_,hl,rfl,hel⟩
  ·simp
  ·have:∀ (ts:List VT) (gy:List (List Value)),gy.length=ts.length→(∀ (i:Nat) (t:VT) (us:List Value),ts[i]? =some t→gy[i]? =some us→us.length≤nodes t)→gy.flatten.length≤aj ts:=by
    intro ts
    induction ts with
    |nil=>intro gy h _;cases gy with
     |nil=>simp
     |cons a b=>simp at h
    |cons t r ih=>
     intro gy h1 h2
     cases gy with
     |nil=>simp at h1
     |cons a b=>
      have h3:=h2 0 t a rfl rfl
      have h4:=ih b (by simpa using h1) fun i t' us' h5 h6=>h2 (i+1) t' us' h5 h6
      rw [List.flatten_cons,List.length_append,aj]
      omega
   have h5:=this ts gy hl fun i t us' h1 h2=>by
    obtain ⟨_,lv,_,ho⟩:=hel i t us' h1 h2
    have:=zC ho
    rw [aX]
    omega
   rw [List.length_append]
   simpa using h5
theorem AX:∀ {gy:List (List Value)} {i:Nat} {xs:List Value},gy[i]? =some xs→(gy.take (i+1)).flatten=(gy.take i).flatten++xs
 |[],i,xs,h=>by simp at h
 |a::r,0,xs,h=>by simp at h;subst h;simp
 |a::r,i+1,xs,h=>by
  have:=AX (gy:=r) (i:=i) (by simpa using h)
  rw [List.take_succ_cons,List.flatten_cons,this,List.take_succ_cons,List.flatten_cons,List.append_assoc]
theorem JV:∀ {ts:List VT} {gy:List (List Value)} {i:Nat},(∀ (i:Nat) (t:VT) (us:List Value),ts[i]? =some t→gy[i]? =some us→us.length≤aj t.list+1)→gy.length=ts.length→i≤ts.length→(gy.take i).flatten.length+aj (ts.drop i)≤aj ts
 |[],gy,i,_,h,hi=>by
  have:gy=[]:=List.eq_nil_of_length_eq_zero h
  subst this
  simp
 |t::r,[],i,_,h,_=>by simp at h
 |t::r,a::b,0,_,_,_=>by simp
 |t::r,a::b,i+1,h,hl,hi=>by
  have h1:=h 0 t a rfl rfl
  have h2:=JV (ts:=r) (gy:=b) (i:=i) (fun i t' us' h5 h6=>h (i+1) t' us' h5 h6) (by simpa using hl) (by simpa using hi)
  rw [List.take_succ_cons,List.flatten_cons,List.length_append,List.drop_succ_cons,aj,aX]
  omega
theorem VB {ts:List VT} {gy:List (List Value)} {m i:Nat} {t:VT} (hv:gy.length=m) (h:∀ (i:Nat) (t:VT) (us:List Value),ts[i]? =some t→gy[i]? =some us→us.length≤aj t.list+1) (ht:ts[i]? =some t) (hm:ts.length=m):(gy.take i).flatten.length+aj t.list+1≤aj ts:=by
 have hi:=(List.getElem?_eq_some_iff.1 ht).1
 have h1:=JV (i:=i) h (by omega) (by omega)
 rw [List.drop_eq_getElem_cons hi,aj,(List.getElem?_eq_some_iff.1 ht).2,aX] at h1
 omega
theorem Zl {ts:List VT} {gy:List (List Value)} {m:Nat} (hv:gy.length=m) (h:∀ (i:Nat) (t:VT) (us:List Value),ts[i]? =some t→gy[i]? =some us→us.length≤aj t.list+1) (hm:ts.length=m):gy.flatten.length≤aj ts:=by
 have h1:=JV (i:=m) h (by omega) (by omega)
 rw [List.take_of_length_le (by omega)] at h1
 omega
theorem own_ne {n bb lo:Nat} {w:World} {T:TypeId} {v:Value} {xs:List Value} (hlt:bb<lo) (h:w.ownsRow lo T 1 v n xs):v.ownBlock=none∨v.ownBlock≠some bb:=by
 cases hv:v.ownBlock with
 |none=>exact .inl rfl
 |some b=>exact .inr (fun e=>by cases e;have:=(World.ownsRow.lt h bb hv).1;omega)
theorem Fq {lo n:Nat} {w:World} {T:TypeId} {v:Value} {xs:List Value} (h:w.ownsRow lo T 1 v n xs):∃ p c,v= .slice p n c:=by
 rcases h.2 with ⟨rfl,h0⟩|⟨g,c,_,rfl,_⟩
 ·exact ⟨none,0,by rw [h0]⟩
 ·exact ⟨_,c,rfl⟩
theorem Sm {N:Nat} (hT:ace N) (bb lo:Nat) (bv lv:Value) (rows us:List Value) (t:VT) (w:World) (hb:lW QO w bb lo bv rows) (ho:OL w N lv t.list us) (hk:∀ u∈us,∀ b,u.ownBlock=some b→b<lo∧b≠bb) (hn:rows.length+aj t.list+1≤1000000000):
 Calls Tryz.prog 13 #[.pointer (some ⟨bb,0,none⟩),t.agg lv] w fun r w'=>r= .returned (.tuple #[])∧∃ bv',lW QO w' bb lo bv' (rows++us)∧Bk bb lo w w':=by
 obtain ⟨p,c,rfl⟩:=ho.slice
 obtain ⟨W1,hW1⟩:∃ W1,w.alloc (.cells #[.int .i64 t.kind,.int .u64 t.num,.string t.text,.slice p t.list.length c,.int .i64 t.elem] 25)=W1:=⟨_,rfl⟩
 obtain ⟨x1,hz1,hb1⟩:=aH (cs:=t.cells (.slice p t.list.length c)) hW1
 have l1:=aF (x1.cell (j:=3) rfl)
 have HC:=ajd (hT bb lo bv (.slice p t.list.length c) rows us t.list W1 (hb.below hb1) (ho.below hb1) hk hn)
 have HB:Hid (Bk bb lo w W1):=Bk.of_below hb1 hb.le
 clear hb ho hk hn x1 hb1
 go_enter Tryz.func13,Tryz.ntmps13
 go_wp2_with (go_at_call 29;refine HC.out.mono ?_;rintro r w2 ⟨rfl,hq⟩;have HQ:=ajd hq;clear hq)
 go_end0
 obtain ⟨bv',h1,h2⟩:=HQ.out
 exact ⟨rfl,bv',h1,HB.out.trans h2⟩
theorem takes:∀ N,ace N:=by
 intro N
 induction N with
 |zero=>intro bb lo bv v rows us ts w _ h;exact h.elim
 |succ N ih=>
  intro bb lo bv v rows us ts w hb ho hk hn
  have HO:=ajd ho
  obtain ⟨p,c,rfl⟩:=ho.slice
  have hlen:ts.length≤1000000000:=by have:=fZ ts;omega
  obtain ⟨m,hm⟩:∃ m,ts.length=m:=⟨_,rfl⟩
  have Hm:=ajd hm
  rw [hm] at hlen HO ⊢
  have HB0:=ajd hb
  have HK:=ajd hk
  have HN:=ajd hn
  obtain ⟨gy,hvl,hus,hel⟩:∃ gy:List (List Value),gy.length=m∧us=gy.flatten++[.slice p m c]∧∀ (i:Nat) (t:VT) (xs:List Value),ts[i]? =some t→gy[i]? =some xs→∃ g lv,p=some ⟨g,0,none⟩∧(g<lo∧g≠bb)∧t.bD∧pO w g (i*5) t lv∧OL w N lv t.list xs:=by
   rcases ho with ⟨h1,h2,h3⟩|⟨g,cc,gy,h1,h2,h3,h4,h5,h6,h7,h8⟩
   ·subst h1
    refine ⟨[],by simpa using hm,by rw [h3,←hm];rfl,fun i t xs h=>by simp at h⟩
   ·rw [hm] at h1
    simp only [Value.slice.injEq] at h1
    obtain ⟨rfl, -,rfl⟩:=h1
    refine ⟨gy,h6.trans hm,by rw [h7,hm],fun i t xs ht hx=>?_⟩
    obtain ⟨hf,lv,ha,hl⟩:=h8 i t xs ht hx
    exact ⟨g,lv,rfl,(hk (.slice (some ⟨g,0,none⟩) m c) (by rw [h7,hm];simp) g rfl),hf,ha,hl⟩
  have HVL:=ajd hvl
  have HEL:=ajd hel
  have HUS:=ajd hus
  have HIH:=ajd ih
  clear hb ho hk hn hm hvl hel hus ih
  go_enter Tryz.func29,Tryz.ntmps29
  go_wp2
  go_loopw [4] (fun iv wr=>∃ i:Nat,iv= .int .i64 i∧i≤m∧Hid (Bk bb lo w wr)∧Hid (∃ bv',lW QO wr bb lo bv' (rows++(gy.take i).flatten))) (fun iv _=>m-(intOf iv).toNat)
  case atStart=>exact ⟨0,rfl,Nat.zero_le _,Bk.refl _ _ _,bv,by simpa using HB0.out⟩
  case round=>
   obtain ⟨i,rfl,hi,HB,HQ⟩:=hrel
   by_cases hlt:i<m
   ·obtain ⟨t,ht⟩:∃ t,ts[i]? =some t:=⟨_,List.getElem?_eq_getElem (by rw [Hm.out];exact hlt)⟩
    obtain ⟨xs,hx⟩:∃ xs,gy[i]? =some xs:=⟨_,List.getElem?_eq_getElem (by rw [HVL.out];exact hlt)⟩
    obtain ⟨g,lv,rfl,hgb,hf,ha,hl⟩:=HEL.out i t xs ht hx
    obtain ⟨bv1,hbk⟩:=HQ.out
    obtain ⟨q,d,rfl⟩:=hl.slice
    have le:=ag (dW (ha.heap (HB.out.block _ hgb.1 hgb.2)))
    have hxu:∀ u∈xs,u∈us:=fun u hu=>by rw [HUS.out];exact List.mem_append_left _ (List.mem_flatten.2 ⟨xs,List.mem_of_getElem? hx,hu⟩)
    have hol:OL wr N (.slice q t.list.length d) t.list xs:=hl.heap HB.out.size fun u hu b hb=>HB.out.block b (HK.out u (hxu u hu) b hb).1 (HK.out u (hxu u hu) b hb).2
    have hcnt:(rows++(gy.take i).flatten).length+aj t.list+1≤1000000000:=by
     have h1:=VB HVL.out (fun i t us h1 h2=>let ⟨_,lv,_,_,_,_,ho⟩:=HEL.out i t us h1 h2;zC ho) ht (ts:=ts) (Hm.out)
     have:=HN.out
     rw [List.length_append]
     omega
    have HT:=ajd (Sm HIH.out bb lo bv1 (.slice q t.list.length d) (rows++(gy.take i).flatten) xs t wr hbk hol (fun u hu b hb=>HK.out u (hxu u hu) b hb) hcnt)
    have HXT:=ajd (AX hx)
    have hi0:(0:Int)≤(i:Int):=by omega
    have hi1:(i:Int)<(m:Int):=by omega
    clear hl ha hf hbk ht hx hxu hol hcnt HQ
    go_wp2_with (go_at_call 13;refine HT.out.mono ?_;rintro r w2 ⟨rfl,hq⟩;have HQ:=ajd hq;clear hq)
    go_roundw
    case rel=>
     refine ⟨i+1,by go_num,by omega,?_,?_⟩
     ·obtain ⟨bv',h1,h2⟩:=HQ.out
      exact HB.out.trans h2
     ·obtain ⟨bv',h1,h2⟩:=HQ.out
      refine ⟨bv',?_⟩
      rw [HXT.out,←List.append_assoc]
      exact h1
    case measure=>simp [intOf];omega
   ·obtain rfl:i=m:=by omega
    obtain ⟨bv1,hbk⟩:=HQ.out
    rw [List.take_of_length_le (Nat.le_of_eq HVL.out)] at hbk
    obtain ⟨cs,rfl,hbx,hbt⟩:=hbk.box
    obtain ⟨q,d,rfl⟩:=Fq hbk.row
    have hrow:=hbk.row
    have HBK:=ajd hbk
    have l1:=Fp (hbx 0 _ rfl)
    obtain ⟨ib,hb0,hb1,hb2,hb3⟩:=info_parts Zj
    have hcn:(rows++gy.flatten).length+1≤1000000000:=by
     have h1:=Zl HVL.out (fun i t us h1 h2=>let ⟨_,lv,_,_,_,_,ho⟩:=HEL.out i t us h1 h2;zC ho) (ts:=ts) Hm.out
     have:=HN.out
     rw [List.length_append]
     omega
    obtain ⟨R,hR⟩:∃ R,rows++gy.flatten=R:=⟨_,rfl⟩
    have HR:Hid (rows++us=R++[.slice p i c]):=by show _=_;rw [←hR,HUS.out,List.append_assoc]
    rw [hR] at hrow hcn HBK l1
    obtain ⟨n,hn⟩:∃ n,R.length=n:=⟨_,rfl⟩
    rw [hn] at hrow hcn HBK l1
    have Hn:=ajd hn
    have hmx:n+1≤maxLen:=by unfold maxLen;omega
    have hmb:(n+1)*24≤140737488355328:=by omega
    have hbw:bb<lo∧lo≤wr.heap.size:=⟨HBK.out.lt,HBK.out.le⟩
    have zc:Below wr.heap.size wr (wr.alloc (.cells #[.slice p i c] 23)):=(Below.refl _ _).alloc (Nat.le_refl _) _
    have HBA:=ajd (HBK.out.below zc)
    have hrA:=HBA.out.row
    rw [hn] at hrA
    have hBA:lo≤(wr.alloc (.cells #[.slice p i c] 23)).heap.size:=by have:=zc.size;omega
    clear hrow hR hcn hn
    go_wp2_with (at_builtin;go_must (refine wpList_append_own_at _ rfl _ _ 33 rfl lo 23 ib (.slice none 0 0) 1 24 Tryz.underlying33 hb0 hb1 hb2 hb3 rfl (by decide) _ n R rfl hrA ⟨wr.heap.size,0,none⟩ 1 1 [.slice p i c] rfl rfl (cell_one_new _ _ _) (by simp [Value.oneCell']) hmx hmb hBA ?_;intro v' w4 Fs uZ Zm abt;obtain ⟨q4,d4,rfl⟩:=Fq Fs;obtain ⟨cs4,e4,hc4,ht4⟩:=HBA.out.box;have aiH:some bb≠(Value.slice q n d).ownBlock:=(fun e=>by have:=(World.ownsRow.lt hrA bb e.symm).1;omega);have he4:=uZ.block bb (by have:=zc.size;omega) aiH;obtain ⟨X9,uT,hc9,ht9,hg9⟩:=Zk (bb:=bb) (v:=w4) (u:= .slice q n d) (fun j x hx=>(World.cell?_of_block (a:=⟨bb,_,none⟩) he4).trans (hc4 j x (by rw [e4];exact hx))) (dQ ht4 he4) q4 (n+1) d4;have acf:=World.ownsRow.kept Fs hg9 (own_ne (T:=23) hbw.1 Fs);have HB9:Hid (lW QO X9 bb lo (.slice q4 (n+1) d4) (R++[.slice p i c])∧Bk bb lo wr X9):=⟨⟨⟨_,rfl,hc9,ht9⟩,(by rw [List.length_append,Hn.out];exact acf),hbw.1,(by have:=hg9.size;have:=uZ.size;have:=zc.size;omega)⟩,((Bk.of_below zc hbw.2).trans (Bk.grown uZ hBA (fun b e=> .inr (World.ownsRow.lt hrA b e).1))).trans (Bk.grown hg9 (by have:=uZ.size;have:=zc.size;omega) (fun b e=>by cases e;exact .inl rfl))⟩;clear Fs uZ Zm abt hc4 ht4 he4 hc9 ht9 hg9 acf zc))
    go_end0
    exact ⟨rfl,_,by rw [HR.out];exact HB9.out.1,HB.out.trans HB9.out.2⟩
end Go.Proofs.YtmldhjoolebjoaaGreatDoor.Va
namespace Go.Proofs.YtmldhjoolebjoaaGreatDoor.Va
open Go Go.RowKit Nu Uc
theorem VC {w:World} {a:Addr} {v:Value} (h:w.cell? a=some v):(Instr.loadAt 22 (.pointer (some a))).run Tryz.prog w= .ok v w:=by
 have:=Tryz.underlying22
 have:=Tryz.sizeOf22
 go_simp
attribute [-go_sem] Go.Instr.loadAt Go.Instr.storeAt
def acg (i:Nat):VT:= .mk (-1000-(i:Int)) i ⟨#[]⟩ 0 []
theorem NG (i:Nat) (hi:i≤1000000000) (w:World):Calls Tryz.prog 30 #[.int .i64 i] w fun r w'=>r= .returned (.agg #[.int .i64 (-1000-(i:Int)),.int .u64 i,.string ⟨#[]⟩,.slice none 0 0,.int .i64 0])∧Below w.heap.size w w':=by
 obtain ⟨W1,hW1⟩:∃ W1,w.alloc (.cells #[.int .i64 0,.int .u64 0,.string ⟨#[]⟩,.slice none 0 0,.int .i64 0] 25)=W1:=⟨_,rfl⟩
 obtain ⟨x1,hz1,hb1⟩:=aH (cs:=ah.cells (.slice none 0 0)) hW1
 obtain ⟨X,hs,hl,hb,hz,_⟩:=bL x1 rfl (acg i) none 0 0
 replace hs:(Instr.storeAt 25 (.pointer (some ⟨w.heap.size,0,none⟩)) (.agg #[.int .i64 (-1000-(i:Int)),.int .u64 i,.string ⟨#[]⟩,.slice none 0 0,.int .i64 0])).run Tryz.prog W1= .ok () X:=hs
 have iJ:=ajd hl
 have HB:Hid (Below w.heap.size w X):=hb1.trans hb
 have e1:IntKind.i64.wrap (-1000-(i:Int))= -1000-(i:Int):=by rw [IntKind.wrap_i64];omega
 have e2:IntKind.u64.wrap (i:Int)=(i:Int):=by rw [IntKind.wrap_u64];omega
 clear x1 hb1 hl hb hz hz1
 go_enter Tryz.func30,Tryz.ntmps30
 go_wp2
 exact bodyPost_ret_by (dR rfl rfl iJ.out) rfl ⟨rfl,HB.out⟩
theorem Fu {own:OB} {w:World} {i M N:Nat} {v:Value} (h:vS nI own w i M N v) (hMN:N≤M) (hN:N≤4000000000) (hi:i≤1000000000):Calls Tryz.prog 31 #[v,.int .i64 i] w fun r w'=>r= .returned (.bool true)∧w'=w:=by
 obtain ⟨p,n,c,rfl,hnN,hsh⟩:=h.shape
 have HS:=ajd hsh
 have e1:IntKind.i64.wrap (-1000-(i:Int))= -1000-(i:Int):=by rw [IntKind.wrap_i64];omega
 have e2:IntKind.u64.wrap (i:Int)=(i:Int):=by rw [IntKind.wrap_u64];omega
 clear h hsh
 go_enter Tryz.func31,Tryz.ntmps31
 go_wp2
 go_loopw [5] (fun kv wr=>∃ k:Nat,kv= .int .i64 k∧k≤n∧wr=w) (fun kv _=>n-(intOf kv).toNat)
 case atStart=>exact ⟨0,rfl,Nat.zero_le _,rfl⟩
 case round=>
  obtain ⟨k,rfl,hk,rfl⟩:=hrel
  by_cases hlt:k<n
  ·obtain ⟨b,off,rfl,_,_,_,hcell⟩:=HS.out (by omega)
   have hc0:=hcell k (by omega) hlt 0 _ rfl
   have hc1:=hcell k (by omega) hlt 1 _ rfl
   rw [yh] at hc0 hc1
   rw [Nat.add_zero] at hc0
   have l0:=aG hc0
   have l1:=VC hc1
   have hk0:(0:Int)≤(k:Int):=by omega
   have hk1:(k:Int)<(n:Int):=by omega
   clear hcell hc0 hc1
   go_wp2
   go_roundw
   case rel=>exact ⟨k+1,by go_num,by omega,trivial⟩
   case measure=>simp [intOf];omega
  ·obtain rfl:k=n:=by omega
   go_wp2
   go_ret
   exact ⟨rfl,rfl⟩
end Go.Proofs.YtmldhjoolebjoaaGreatDoor.Va
namespace Go.Proofs.YtmldhjoolebjoaaGreatDoor.Va
open Go Go.RowKit Nu Uc
attribute [-go_sem] Go.Instr.loadAt Go.Instr.storeAt
theorem F4 {bb lo S N:Nat} {bv:Value} {rows:List Value} {w:World} (h:lW QO w bb lo bv rows) (hr:∀ u∈rows,u= .slice none 0 0∨∃ g k c,u= .slice (some ⟨g,0,none⟩) k c∧g<w.heap.size∧k≤c∧w.there g 0 (c*5)) (hb:∀ u∈rows,∀ b,u.ownBlock=some b→S≤b∧b<lo∧b≠bb) (ha:aM rows) (hN:∀ u∈rows,∀ p n c,u= .slice p n c→n≤N) (hN2:12≤N∧N≤1000000000) (hm:rows.length≤10000000):
 Calls Tryz.prog 14 #[.pointer (some ⟨bb,0,none⟩)] w fun r w'=>r= .returned (.bool true)∧(S≤w.heap.size→Below S w w'):=by
 obtain ⟨iR,hI0,hS⟩:=OC h hr hb ha hN
 obtain ⟨bp,bc,rfl⟩:=Fq h.row
 obtain ⟨m,hmm⟩:∃ m,rows.length=m:=⟨_,rfl⟩
 have Hm:=ajd hmm
 rw [hmm] at hI0 hm
 have HI0:=ajd hI0
 have HS:=ajd hS
 have HNN:=ajd hN2
 obtain ⟨B0,hB0⟩:∃ B0,w.heap.size=B0:=⟨_,rfl⟩
 rw [hB0] at HI0
 clear h hr hb ha hN hI0 hS hmm hB0
 have HBK:Hid (∀ {own:OB} {gg:List Value} {a:Nat→Nat} {wr:World} {B:Nat} {R:List (Value×List Value)},BInv iR w B rows gg N a R own wr→(Value.slice (some ⟨bb,0,none⟩) 1 1,[Value.slice bp m bc])∈R→(Instr.loadAt 33 (.pointer (some ⟨bb,0,none⟩))).run Tryz.prog wr= .ok (.slice bp m bc) wr):=fun hI hm=>by
  obtain ⟨kb,e,hc⟩:=hI.at hm (t:=0) rfl
  simp only [Option.some.injEq,Addr.mk.injEq,and_true] at e
  subst e
  exact Fp hc
 go_enter Tryz.func14,Tryz.ntmps14
 go_wp2
 go_loopw [3] (fun tv wq=>∃ t:Nat,tv= .int .i64 t∧t≤m∧Hid (∃ own,BInv iR w B0 rows [] N (fun s=>if s<t then N else 0) [(.slice bp m bc,rows),(.slice (some ⟨bb,0,none⟩) 1 1,[.slice bp m bc])] own wq)) (fun tv _=>m-(intOf tv).toNat)
 case atStart=>exact ⟨0,rfl,Nat.zero_le _,iR,HI0.out.chg fun s _=>by simp⟩
 case round=>
  obtain ⟨t,rfl,ht,HQ⟩:=hrel
  obtain ⟨own,hI⟩:=HQ.out
  have lb:=HBK.out hI (List.mem_cons_of_mem _ List.mem_cons_self)
  by_cases aiJ:t<m
  ·obtain ⟨x,hx⟩:∃ x,rows[t]? =some x:=⟨_,List.getElem?_eq_getElem (by rw [Hm.out];exact aiJ)⟩
   obtain ⟨xp,xn,xc,rfl,hxn,_⟩:=(hI.vf t x hx).shape
   obtain ⟨kb,rfl,hc0⟩:=hI.at List.mem_cons_self hx
   have l1:=aF hc0
   have HX:=ajd hx
   have HI:=ajd hI
   have ht0:(0:Int)≤(t:Int):=by omega
   have ht1:(t:Int)<(m:Int):=by omega
   clear hx hI HQ hc0
   go_wp2
   clear lb l1
   go_loopw [5] (fun kk wq=>∃ k:Nat,kk= .int .i64 k∧k≤xn∧Hid (∃ own,BInv iR w B0 rows [] N (fun s=>if s<t then N else if s=t then k else 0) [(.slice (some ⟨kb,0,none⟩) m bc,rows),(.slice (some ⟨bb,0,none⟩) 1 1,[.slice (some ⟨kb,0,none⟩) m bc])] own wq)) (fun kk _=>xn-(intOf kk).toNat)
   case atStart=>exact ⟨0,rfl,Nat.zero_le _,own,HI.out.chg fun s _=>by (repeat' split)<;>omega⟩
   case round=>
    obtain ⟨k,rfl,hk,HQ⟩:=hrel
    by_cases af1:k<xn
    ·have hMK:=ajd (NG t (by omega) wr)
     have hk0:(0:Int)≤(k:Int):=by omega
     have hk1:(k:Int)<(xn:Int):=by omega
     obtain ⟨own,hI⟩:=HQ.out
     obtain ⟨g,hxp⟩:∃ g:Addr,xp=some g:=by
      obtain ⟨p',n',c',e,_,hsh⟩:=(hI.vf t _ HX.out).shape
      simp only [Value.slice.injEq] at e
      obtain ⟨rfl,rfl,rfl⟩:=e
      obtain ⟨g,off,rfl,_⟩:=hsh (by omega)
      exact ⟨_,rfl⟩
     subst hxp
     have HI:=ajd hI
     clear hI HQ
     go_wp2_with (go_at_call 30;refine hMK.out.mono ?_;rintro r w2 ⟨rfl,hb2⟩;have hI2:=HI.out.keep hb2;obtain ⟨p',n',c',e,_,hsh⟩:=(hI2.vf t _ HX.out).shape;simp only [Value.slice.injEq] at e;obtain ⟨e1,rfl,rfl⟩:=e;obtain ⟨g',off,e2,_,hnc,hth,_⟩:=hsh (by omega);rw [e2] at e1;cases e1;have hst:=aD (t:=acg t) (a:=none) (n:=0) (c:=0) (sj (z:=5) hth (show k<xc by omega));replace hst:(Instr.storeAt 25 (.pointer (some ⟨g',off+k*5,none⟩)) (.agg #[.int .i64 (-1000-(t:Int)),.int .u64 t,.string ⟨#[]⟩,.slice none 0 0,.int .i64 0])).run Tryz.prog w2= .ok () (w2.setCells g' (off+k*5) (nI t)):=hst;have HI3:=ajd (hI2.store (a':=fun s=>if s<t then N else if s=t then k+1 else 0) HX.out (by simp) af1 (by simp) (fun s hs=>by simp [hs]));obtain ⟨X,hX⟩:∃ X,w2.setCells g' (off+k*5) (nI t)=X:=⟨_,rfl⟩;rw [hX] at hst HI3;clear hX hb2 hI2 hsh hth e2)
     go_roundw
     case rel=>exact ⟨k+1,by go_num,by omega,own,HI3.out⟩
     case measure=>simp [intOf];omega
    ·obtain rfl:k=xn:=by omega
     obtain ⟨own,hI⟩:=HQ.out
     have HN:=ajd (hI.full (a':=fun s=>if s<t+1 then N else 0) HX.out (k:=k) (by simp) (Nat.le_refl _) (fun s hs=>by (repeat' split)<;>omega))
     clear hI HQ
     go_wp2
     go_roundw
     case rel=>exact ⟨t+1,by go_num,by omega,own,HN.out⟩
     case measure=>simp [intOf];omega
  ·obtain rfl:t=m:=by omega
   have HQ4:Hid (∃ own,BInv iR w B0 rows [] N (fun _=>N) [(.slice bp t bc,rows),(.slice (some ⟨bb,0,none⟩) 1 1,[.slice bp t bc])] own wr):=⟨own,hI.chg fun s hs=>by rw [Hm.out] at hs;simp [hs]⟩
   clear HQ hI
   obtain ⟨nf,hf0,hf1,hf2,hf3⟩:=info_parts uL
   obtain ⟨il,hl0,hl1,hl2,hl3⟩:=info_parts Zj
   go_wp2
   clear lb
   go_loopw [6,7] (fun gv tv wq=>∃ (j:Nat) (gg:List Value),tv= .int .i64 j∧j≤t∧gg.length=12*j∧Hid (∃ own,BInv iR w B0 rows gg N (fun _=>N) [(.slice bp t bc,rows),(.slice (some ⟨bb,0,none⟩) 1 1,[.slice bp t bc])] own wq∧GB B0 23 own wq gv gg)) (fun _ tv _=>t-(intOf tv).toNat)
   case atStart=>
    obtain ⟨own,hI⟩:=HQ4.out
    exact ⟨0,[],rfl,Nat.zero_le _,rfl,own,hI,GB.new⟩
   case round=>
    obtain ⟨j,gg,rfl,hj,hgg,HQ⟩:=hrel
    obtain ⟨own,hI,hG⟩:=HQ.out
    have lb:=HBK.out hI (List.mem_cons_of_mem _ List.mem_cons_self)
    by_cases EY:j<t
    ·obtain ⟨x,hx⟩:∃ x,rows[j]? =some x:=⟨_,List.getElem?_eq_getElem (by rw [Hm.out];exact EY)⟩
     have hf:=hI.vf j x hx
     obtain ⟨xp,xn,xc,rfl,hxn,_⟩:=hf.shape
     obtain ⟨kb,rfl,hc0⟩:=hI.at List.mem_cons_self hx
     have l1:=aF hc0
     have HX:=ajd hx
     have HI:=ajd hI
     have HG:=ajd hG
     have HF:=ajd hf
     have ht0:(0:Int)≤(j:Int):=by omega
     have ht1:(j:Int)<(t:Int):=by omega
     clear hx hI hG hf HQ hc0
     go_wp2
     clear lb l1
     go_loopw [6,8,9] (fun gv x kk wq=>∃ (k:Nat) (gg:List Value),kk= .int .i64 k∧k≤12∧gg.length=12*j+k∧Hid (∃ own,BInv iR w B0 rows gg N (fun _=>N) [(.slice (some ⟨kb,0,none⟩) t bc,rows),(.slice (some ⟨bb,0,none⟩) 1 1,[.slice (some ⟨kb,0,none⟩) t bc])] own wq∧GB B0 23 own wq gv gg∧vS nI own wq j (N+k) (N+k) x)) (fun _ _ kk _=>12-(intOf kk).toNat)
     case atStart=>exact ⟨0,gg,rfl,by omega,by omega,own,HI.out,HG.out,by rw [Nat.add_zero];exact HF.out⟩
     case round=>
      obtain ⟨k,gg2,rfl,hk,hgg2,HQ⟩:=hrel
      by_cases af1:k<12
      ·have hk1:(k:Int)<12:=by omega
       have hMK:=ajd (NG j (by omega) wr)
       have hmx:N+k+1≤maxLen:=by unfold maxLen;have:=HNN.out;omega
       have VI:(N+k+1)*64≤140737488355328:=by have:=HNN.out;omega
       have hgl:gg2.length≤120000012:=by omega
       have hmg:gg2.length+1≤maxLen:=Nat.le_trans (Nat.succ_le_succ hgl) (by decide)
       have hmh:(gg2.length+1)*24≤140737488355328:=Nat.le_trans (Nat.mul_le_mul_right 24 (Nat.succ_le_succ hgl)) (by decide)
       go_wp2_with (first
        |(go_at_call 30
          refine hMK.out.mono ?_
          rintro r w2 ⟨rfl,hb2⟩
          obtain ⟨own,hI,hG,hF⟩:=HQ.out
          have hIb:=hI.keep hb2
          have hGb:=hG.keep hI.dom hb2
          have af3:=(fJ.grown (pat:=nI) hI.dom ⟨hb2.os,hb2.tape,hb2.output,hb2.size,fun k hk _=>hb2.block k hk⟩ (row:=none) (fun _ e=>by cases e)).ZN _ _ _ _ hF
          have hFa:∀ o,vS nI own (w2.alloc o) j (N+k) (N+k) u8:=fun o=>(fJ.grown hIb.dom (A7 w2 o) (fun _ e=>by cases e)).ZN _ _ _ _ af3
          clear hI hG hF af3 hb2 HQ)
        |(at_builtin;refine xL (pat:=nI) (own:=own) _ rfl _ _ 23 rfl 25 nf _ 5 64 Tryz.underlying23 hf0 hf1 hf2 hf3 rfl (by decide) j rfl (Wy _) (hIb.alloc _).dom (N+k) _ rfl (hFa _) hmx VI ⟨w2.heap.size,0,none⟩ rfl (Td _ _ _) ?_
          intro x' w3 af4 Qf hF3 aiM
          obtain ⟨g',off',n',c',rfl⟩:=aiM
          have hI3:=(hIb.alloc _).step Qf (fun _ e=>by cases e)
          have hG3:=(hGb.alloc hIb.dom _).step Qf
          have hFb:∀ o,vS nI af4 (w3.alloc o) j (N+k+1) (N+k+1) _:=fun o=>(fJ.grown hI3.dom (A7 w3 o) (fun _ e=>by cases e)).ZN _ _ _ _ hF3
          have hBw3:B0≤w3.heap.size:=hI3.Bw
          have HI3:=ajd hI3;have HG3:=ajd hG3;have HFb:=ajd hFb
          clear hIb hGb hFa hI3 hG3 hFb Qf hF3)
        |(at_builtin;go_must (refine wpList_append_own_at _ rfl _ _ 33 rfl B0 23 il (.slice none 0 0) 1 24 Tryz.underlying33 hl0 hl1 hl2 hl3 rfl (by decide) _ gg2.length gg2 rfl (HG3.out.alloc HI3.out.dom _).1 ⟨w3.heap.size,0,none⟩ 1 1 [.slice (some ⟨g',off',none⟩) (n'+1) c'] rfl rfl (cell_one_new _ _ _) (by simp [Value.oneCell']) hmg hmh (by simp;omega) ?_)
          intro vg' w4 Fs uZ Zm abt
          obtain ⟨hG4,abv⟩:=(HG3.out.alloc HI3.out.dom _).more (HI3.out.alloc _).dom Fs uZ abt
          have HQ4:=ajd (And.intro (((HI3.out.alloc _).ZZ (HG3.out.alloc HI3.out.dom _) abv).push (abv.ZN _ _ _ _ (HFb.out _)) (by have:=HNN.out;omega) (by omega:gg2.length/12=j)) (And.intro hG4 (abv.ZN _ _ _ _ (HFb.out _))))
          clear Fs uZ Zm abt hG4 abv)
        |go_in)
       go_roundw
       case rel=>exact ⟨k+1,_,by go_num,by omega,by simp;omega,af4,HQ4.out⟩
       case measure=>simp [intOf];omega
      ·obtain rfl:k=12:=by omega
       have HQ5:Hid (∃ own,BInv iR w B0 rows gg2 N (fun _=>N) [(.slice (some ⟨kb,0,none⟩) t bc,rows),(.slice (some ⟨bb,0,none⟩) 1 1,[.slice (some ⟨kb,0,none⟩) t bc])] own wr∧GB B0 23 own wr u6 gg2):=let ⟨own,h1,h2,_⟩:=HQ.out;⟨own,h1,h2⟩
       have e12:((12:Nat):Int)=12:=rfl
       rw [e12]
       clear HQ
       go_wp2
       go_roundw
       case rel=>exact ⟨j+1,gg2,by go_num,by omega,by omega,HQ5.out⟩
       case measure=>simp [intOf];omega
    ·obtain rfl:j=t:=by omega
     have hI6:=hI.raise hG.1 hG.2
     have hrr:BH wr.heap.size own wr u6 gg:=hI6.rows _ List.mem_cons_self
     obtain ⟨p6,c6,rfl,hu⟩:=hrr
     obtain ⟨B6,hB6⟩:∃ B6,wr.heap.size=B6:=⟨_,rfl⟩
     rw [hB6] at hI6
     obtain ⟨nG,hnG⟩:∃ n,gg.length=n:=⟨_,rfl⟩
     have HnG:=ajd hnG
     rw [hnG] at hI6 hgg ⊢
     have hnb:nG≤120000000:=by omega
     have HI:=ajd hI6
     have ET:Hid (S≤w.heap.size→Below S w wr):=fun hs=>hI.st.below hs HS.out
     rename World=>w5
     clear hI hG hu hB6 hI6 HQ hnG hgg
     go_wp2
     clear lb
     go_loopw [10] (fun sv wq=>∃ s:Nat,sv= .int .i64 s∧s≤j∧wq=w5) (fun sv _=>j-(intOf sv).toNat)
     case atStart=>exact ⟨0,rfl,Nat.zero_le _,rfl⟩
     case round=>
      obtain ⟨s,rfl,hs,rfl⟩:=hrel
      have lb:=HBK.out HI.out (List.mem_cons_of_mem _ (List.mem_cons_of_mem _ List.mem_cons_self))
      by_cases hlts:s<j
      ·obtain ⟨x,hx⟩:∃ x,rows[s]? =some x:=⟨_,List.getElem?_eq_getElem (by rw [Hm.out];exact hlts)⟩
       have hMD:=ajd (Fu (HI.out.vf s x hx) (Nat.le_refl _) (by have:=HNN.out;omega) (by omega))
       obtain ⟨xp,xn,xc,rfl,hxn,_⟩:=(HI.out.vf s x hx).shape
       obtain ⟨kb,rfl,hc0⟩:=HI.out.at (List.mem_cons_of_mem _ List.mem_cons_self) hx
       have l1:=aF hc0
       have hs0:(0:Int)≤(s:Int):=by omega
       have hs1:(s:Int)<(j:Int):=by omega
       clear hx hc0
       go_wp2_with (go_at_call 31;refine hMD.out.mono ?_;rintro r w2 ⟨rfl,rfl⟩)
       go_roundw
       case rel=>exact ⟨s+1,by go_num,by omega,trivial⟩
       case measure=>simp [intOf];omega
      ·obtain rfl:s=j:=by omega
       go_wp2
       clear lb
       go_loopw [12] (fun sv wq=>∃ z:Nat,sv= .int .i64 z∧z≤nG∧wq=wr) (fun sv _=>nG-(intOf sv).toNat)
       case atStart=>exact ⟨0,rfl,Nat.zero_le _,rfl⟩
       case round=>
        obtain ⟨z,rfl,hz,rfl⟩:=hrel
        by_cases hltz:z<nG
        ·obtain ⟨x,hx⟩:∃ x,gg[z]? =some x:=⟨_,List.getElem?_eq_getElem (by rw [HnG.out];exact hltz)⟩
         have hMD:=ajd (Fu (HI.out.gf z x hx) (Nat.le_refl _) (by have:=HNN.out;omega) (by omega))
         obtain ⟨xp,xn,xc,rfl,hxn,_⟩:=(HI.out.gf z x hx).shape
         obtain ⟨kb,rfl,hc0⟩:=HI.out.at List.mem_cons_self hx
         have l1:=aF hc0
         have ed:(z:Int).tdiv 12=((z/12:Nat):Int):=by
          rw [Int.tdiv_eq_ediv_of_nonneg (by omega)];omega
         have hs0:(0:Int)≤(z:Int):=by omega
         have hs1:(z:Int)<(nG:Int):=by omega
         clear hx hc0
         go_wp2_with (go_at_call 31;refine hMD.out.mono ?_;rintro r w2 ⟨rfl,rfl⟩)
         go_roundw
         case rel=>exact ⟨z+1,by go_num,by omega,trivial⟩
         case measure=>simp [intOf];omega
        ·obtain rfl:z=nG:=by omega
         go_wp2
         go_ret
         exact ⟨rfl,ET.out⟩
end Go.Proofs.YtmldhjoolebjoaaGreatDoor.Va
namespace Go.Proofs.YtmldhjoolebjoaaGreatDoor.Va
open Go Go.RowKit Nu
theorem JW {N B:Nat} {l:List VT} {lv:Value} {w:World} (hl:bR B w N lv l) (hB:B≤w.heap.size):
 Calls Tryz.prog 5 #[lv] w fun r w'=>r= .returned (.bool (decide (100000<qK l 0)))∧Below w.heap.size w w':=by
 have HL:=ajd hl
 obtain ⟨p,c,rfl⟩:=hl.slice
 have hlen:l.length≤9223372036854775807:=hl.len
 clear hl
 obtain ⟨n,hn⟩:∃ n,l.length=n:=⟨_,rfl⟩
 have Hn:=ajd hn
 rw [hn] at hlen ⊢
 clear hn
 go_enter Tryz.func5,Tryz.ntmps5
 go_wp2
 go_loopw [3,4] (fun v i wr=>∃ (j q:Nat),v= .int .i64 q∧i= .int .i64 j∧j≤n∧Hid (qK (l.drop j) q=qK l 0)∧Hid (Below w.heap.size w wr)) (fun _ i _=>n-(intOf i).toNat)
 case atStart=>exact ⟨0,0,rfl,rfl,Nat.zero_le _,rfl,Below.refl _ _⟩
 case round=>
  obtain ⟨j,q,rfl,rfl,hj,HQ,hb⟩:=hrel
  have hend:∀ (q':Nat),¬j<n∨100000<q→(q:Nat)=qK l 0:=fun _ h=>by
   have:=HQ.out
   rcases h with h|h
   ·obtain rfl:j=n:=by omega
    rw [←Hn.out,QZ] at this;omega
   ·rw [QY _ h] at this;omega
  have hE:=ajd hend;clear hend
  by_cases hlt:j<n
  ·have hlt':(j:Int)<(n:Int):=by omega
   by_cases hq:q≤100000
   ·cases N with
    |zero=>exact HL.out.elim
    |succ N=>
     rcases HL.out with ⟨h0,_⟩|⟨b,off,c',hp,jy,_,hel⟩
     ·rw [←Hn.out,h0] at hlt;exact absurd hlt (by simp)
     rw [Hn.out] at hp
     cases hp
     obtain ⟨t,ht⟩:∃ t,l[j]? =some t:=⟨_,List.getElem?_eq_getElem (by rw [Hn.out];exact hlt)⟩
     obtain ⟨hf,lv,hat,hl⟩:=hel j t ht
     have hbw:Below B w wr:=hb.out.mono hB
     obtain ⟨e0,e1,e2,e3,e4⟩:=hat.below hbw jy
     have hst:=ajd (Kh ht hq)
     have HC:Hid (Calls Tryz.prog 20 #[.agg #[.int .i64 t.kind,.int .u64 t.num,.string t.text,lv,.int .i64 t.elem],.int .i64 q] wr fun r w'=>r= .returned (.int .i64 (wt t q:Nat))∧Below wr.heap.size wr w'):=
      UE (N:=N) (B:=B) (t:=t) (n:=q) ⟨hf,lv,rfl,hl.below hbw⟩ (by have:=hb.out.size;omega) hq
     clear hel hl hat ht
     go_wp2_with (go_at_call 20;refine HC.out.mono ?_;rintro r w2 ⟨rfl,hb2⟩)
     go_roundw
     case rel=>exact ⟨j+1,_,rfl,by go_num,by omega,by rw [←hst.out];exact HQ.out,hb.out.trans (hb2.mono hb.out.size)⟩
     case measure=>simp [intOf];omega
   ·have hq':¬((q:Int)≤100000):=by omega
    go_wp2
    go_ret
    refine ⟨ay ?_,hb.out⟩
    rw [←hE.out q (.inr (by omega)),Bool.eq_iff_iff];simp<;>omega
  ·have hlt':¬((j:Int)<(n:Int)):=by omega
   go_wp2
   all_goals
    go_ret
    refine ⟨ay ?_,hb.out⟩
    rw [←hE.out q (.inl hlt),Bool.eq_iff_iff];simp<;>omega
end Go.Proofs.YtmldhjoolebjoaaGreatDoor.Va
