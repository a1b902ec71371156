/-
  The texts P7 P8 P9 PA Y1 Y2 Y4 Y3 PB V5 Q1 R3 of this claim, one behind the other.
-/
import Derived.Test.YtmldhjoolebjoaaGreatDoorZTFB5
import Derived.Test.YtmldhjoolebjoaaGreatDoorZTFA0
import Derived.Test.YtmldhjoolebjoaaGreatDoorZTFB4
import Derived.Test.YtmldhjoolebjoaaGreatDoorZTFB3
import Derived.Test.YtmldhjoolebjoaaGreatDoorZTFA1
import Derived.Deep.RegionHeld3
import Derived.Deep.DrawnRows
import Derived.Test.YtmldhjoolebjoaaGreatDoorZTFB1
import Derived.Test.YtmldhjoolebjoaaGreatDoorZTFB0
import Derived.Laws.Shifts
import Derived.Laws.ShiftsVar
import Derived.IntWalk
set_option maxHeartbeats 40000000
set_option maxRecDepth 100000
namespace Go.Proofs.YtmldhjoolebjoaaGreatDoor.Va
open Go Go.RowKit Nu Uc Fd Go.Proofs.YtmldhjoolebjoaaGreatDoor.Nm
attribute [-go_sem] Go.Instr.loadAt Go.Instr.storeAt
theorem bL {v:World} {b:Nat} {cs:List Value} (x:eF v b cs) (hl:cs.length=5) (t:VT) (a:Option Addr) (n c:Nat):∃ X,(Instr.storeAt 25 (.pointer (some ⟨b,0,none⟩)) (t.agg (.slice a n c))).run Tryz.prog v= .ok () X∧(loadVar 25 ⟨b,0,none⟩).run Tryz.prog X= .ok (t.agg (.slice a n c)) X∧Below b v X∧X.heap.size=v.heap.size∧∀ j,j≠b→X.heap[j]? =v.heap[j]? :=by
 have y:=x.all (vs:=t.cells (.slice a n c)) (by rw [hl];rfl)
 exact ⟨v.setCells b 0 (t.cells (.slice a n c)),aD (x.part (o:=0) (n:=5) (by omega)),bB y.1,au (Nat.le_refl _) _ _,aC ..,fun j hj=>aA hj _ _⟩
def YW (n:Nat) (a:Except (Nat×Int) (Int×List VT)):Except Int VT:=match a with| .error e=> .error e.2| .ok a=> .ok (aU n a.1 a.2)
theorem Qu:Hr 0:=fun _ _ _ _ _ _ _ _ _ _ _ h _=>absurd h (Nat.not_lt_zero _)
theorem Qv {n:Nat} (hU:R9 n) (hP:YD n):Hr (n+1):=by
 intro B N f t lv w hE hft hl hB h102 Fx hnd
 obtain ⟨p,c,rfl⟩:=hl.slice
 have hnd':(nodes t+13)*2*2^n≤800000000:=by rw [Nat.mul_assoc,←Nat.pow_succ'];exact hnd
 have YX:(nodes t+13)*2^n≤800000000:=Nat.le_trans (Nat.mul_le_mul_right _ (by omega)) hnd'
 obtain ⟨W1,hW1⟩:∃ W1,(w.alloc (.cells #[.int .i64 t.kind,.int .u64 t.num,.string t.text,.slice p t.list.length c,.int .i64 t.elem] 25)).alloc (.cells #[.int .i64 0,.int .u64 0,.string ⟨#[]⟩,.slice none 0 0,.int .i64 0] 25)=W1:=⟨_,rfl⟩
 obtain ⟨x1,x2,hz1,hb1⟩:=bK (cs:=t.cells (.slice p t.list.length c)) (ds:=ah.cells (.slice none 0 0)) hW1
 have l0:=ag x1.1
 have HC:=ajd (hU B N t (.slice p t.list.length c) W1 (hE.below hb1) hft (hl.below (hb1.mono hB)) (by omega) (by omega) YX)
 have X2:=ajd x2
 have HB1:=ajd hb1
 have AJ:=ajd (hE.below hb1)
 have HP:=ajd hP
 have o7:=ajd hnd'
 obtain ⟨a,ha⟩:∃ a,oM n t=a:=⟨_,rfl⟩
 have HA:=ajd ha
 have HRD:Hid (ai (n+1) f t=YW n a):=by
  show dh _ _ f t=_
  unfold dh
  rw [if_pos h102]
  have hu:bH (ai n) t=a:=ha
  rw [hu]
  unfold YW
  cases a<;>rfl
 obtain ⟨R,hR⟩:∃ R,ai (n+1) f t=R:=⟨_,rfl⟩
 rw [hR] at HRD ⊢
 have afw:Zv (kindOf t)≤n:=by omega
 have Vg:=ajd afw
 unfold abD at HC
 rw [ha] at HC
 clear hl x1 x2 hb1 hft hU hP hE ha hR h102 Fx hnd hnd' YX afw
 go_enter Tryz.func122,Tryz.ntmps122
 go_wp2_with (fail)
 clear hW1 l0
 refine HC.out.mono ?_
 rintro r w2 ⟨hb2,bQ⟩
 have z2:W1.heap.size≤w2.heap.size:=hb2.size
 obtain ⟨x4,Qs,hb4⟩:=aH (w:=w2) (cs:=[.int .i64 0,.slice none 0 0]) (T:=91) rfl
 have HB2:=ajd (HB1.out.trans (hb2.mono (by omega)))
 have HE2:=ajd (AJ.out.below hb2)
 have Au:=ajd (X2.out.below hb2 (by omega))
 clear hb2
 cases a with
 |error q=>
  obtain ⟨i,e⟩:=q
  subst bQ
  have hne:e≠0:=sO (kU n) HA.out
  have hee:(e !=0)=true:=by simp [hne]
  obtain ⟨X5,hs5,_,_,hb5,oH,_⟩:=bJ x4 rfl 0 none 0 0
  have h25:Below w2.heap.size w2 X5:=hb4.trans hb5
  have x2c:=Au.out.below h25 (by omega)
  obtain ⟨X6,hs6,NM,hb6,xG,_⟩:=bL x2c rfl ah none 0 0
  replace hs6:(Instr.storeAt 25 (.pointer (some ⟨w.heap.size+1,0,none⟩)) (.agg #[.int .i64 0,.int .u64 0,.string ⟨#[]⟩,.slice none 0 0,.int .i64 0])).run Tryz.prog X5= .ok () X6:=hs6
  have iJ:=ajd NM
  have HQ:Hid (bG R w (.returned (.tuple #[ah.agg (.slice none 0 0),.int .i64 e])) X6):=by
   show bG R w _ X6
   rw [HRD.out]
   exact ⟨(HB2.out.trans (h25.mono (by omega))).trans (hb6.mono (by omega)),rfl⟩
  clear hb5 oH h25 x2c NM hb6 xG x4 Qs hb4 hne
  go_wp2
  exact bodyPost_ret_by (az rfl rfl iJ.out rfl) rfl HQ.out
 |ok q=>
  obtain ⟨k,l⟩:=q
  obtain ⟨lv,us,rfl,ho,hbk,hap⟩:=bQ
  obtain ⟨q5,c5,rfl⟩:=ho.slice
  obtain ⟨X5,hs5,_,bx5,hb5,oH,_⟩:=bJ x4 rfl k q5 l.length c5
  have h25:Below w2.heap.size w2 X5:=hb4.trans hb5
  obtain ⟨fs,hk,hfs,_⟩:=dS HA.out
  obtain ⟨hll,YE⟩:=xX (CK n) HA.out hfs
  have afx:rk k≤n:=by have:=Vg.out;rw [hk] at this;exact this
  have hpc:=HP.out X5.heap.size LV k fs l (.slice q5 l.length c5) X5 (HE2.out.below h25) hfs hll (ho.below h25).vX (Nat.le_refl _) afx (Nat.le_trans (Nat.mul_le_mul_right _ (by have:=wu (zM n) HA.out;omega)) o7.out) YE
  have hl5:=gI bx5
  have Si:=ajd hpc
  have HZ5:Hid (w.heap.size+2≤X5.heap.size):=by show _≤_;omega
  have X2c:=ajd (Au.out.below h25 (by omega))
  have Sa:=ajd (HB2.out.trans (h25.mono (by omega)))
  clear hll YE afx hfs hk ho hbk hap hb5 oH h25 bx5 x4 Qs hb4 hpc Au HC
  go_wp2_with (fail)
  refine Si.out.mono ?_
  rintro r w6 ⟨Sc,VL,rfl,Sb,FW,Nn,hb6⟩
  obtain ⟨q6,c6,rfl⟩:=Sb.slice
  have z6:X5.heap.size≤w6.heap.size:=hb6.size
  have z5:=HZ5.out
  obtain ⟨X7,hs7,wN,kr,rY,hsame⟩:=bL (X2c.out.below hb6 (by omega)) rfl (aU n k l) q6 (aU n k l).list.length c6
  have iJ:=ajd wN
  have HQ:Hid (bG R w (.returned (.tuple #[(aU n k l).agg (.slice q6 (aU n k l).list.length c6),.int .i64 0])) X7):=by
   show bG R w _ X7
   rw [HRD.out]
   refine ⟨(Sa.out.trans (hb6.mono (by omega))).trans (kr.mono (by omega)),_,VL,rfl,kV _ _,Sb.heap (by omega) fun u hu b hb=>hsame b (by have:=FW u hu b hb;omega),?_,Nn⟩
   rw [rY]
   exact FW.mono (by omega) (Nat.le_refl _)
  clear wN kr rY hsame Sb FW Nn hb6
  go_wp2
  exact bodyPost_ret_by (az rfl rfl iJ.out rfl) rfl HQ.out
theorem vP:∀ n,Hr n
 |0=>Qu
 |n+1=>Qv (Vb (vP n)) (R8 (vP n))
theorem Nq (n:Nat):YD n:=R8 (vP n)
theorem vQ {v:World} {b:Nat} {cs:List Value} (x:eF v b cs) (hl:cs.length=5) (t:VT) (a:Option Addr) (n c:Nat):∃ X,(Instr.storeAt 25 (.pointer (some ⟨b,0,none⟩)) (t.agg (.slice a n c))).run Tryz.prog v= .ok () X∧(loadVar 25 ⟨b,0,none⟩).run Tryz.prog X= .ok (t.agg (.slice a n c)) X∧Below b v X∧X.heap.size=v.heap.size∧∀ j,j≠b→X.heap[j]? =v.heap[j]? :=by
 have y:=x.all (vs:=t.cells (.slice a n c)) (by rw [hl];rfl)
 exact ⟨v.setCells b 0 (t.cells (.slice a n c)),aD (x.part (o:=0) (n:=5) (by omega)),bB y.1,au (Nat.le_refl _) _ _,aC ..,fun j hj=>aA hj _ _⟩
theorem mF {a b:Int} (h:a=b):Ending.returned (.int .i64 a)= .returned (.int .i64 b):=by rw [h]
def Vh (a:Except Int VT):Int:=match a with| .error e=>e| .ok _=>0
theorem bG.afy {a:Except Int VT} {w w':World} {r:Ending} (h:bG a w r w'):Below w.heap.size w w'∧∃ q d us,r= .returned (.tuple #[(okV a).agg (.slice q (okV a).list.length d),.int .i64 (Vh a)])∧(okV a).bD∧OL w' LV (.slice q (okV a).list.length d) (okV a).list us∧ku w.heap.size w'.heap.size us∧aM us:=by
 obtain ⟨hb,h⟩:=h
 refine ⟨hb,?_⟩
 cases a with
 |ok y=>
  obtain ⟨lv,us,h1,h2,h3,h4,h5⟩:=h
  obtain ⟨q,d,rfl⟩:=h3.slice
  exact ⟨q,d,us,h1,h2,h3,h4,h5⟩
 |error e=>exact ⟨none,0,[.slice none 0 0],h,iq,OL.nil _ _,ku.none _ _,aM.one _⟩
theorem Qw {n lo hi N B:Nat} (hRC:Hr n) (f:FT) (kv:Value) (t:VT) (lv:Value) (w:World) (hE:Env w) (hk:jq lo hi w kv f.kinds) (hkl:f.kinds.length≤1000) (hft:t.bD) (hl:bR B w N lv t.list) (hB:B≤w.heap.size) (Fx:f.type=102→bF f t=true→Zv (kindOf t)<n) (hnd:(nodes t+13)*2^n≤800000000):
 Calls Tryz.prog 94 #[jJ f kv,t.agg lv] w fun r w'=>r= .returned (.int .i64 (gX (ai n) f t))∧Below w.heap.size w w':=by
 have aaU:nodes t≤800000000:=by have:=Nat.le_mul_of_pos_right (nodes t+13) (Nat.two_pow_pos n);omega
 obtain ⟨p,c,rfl⟩:=hl.slice
 obtain ⟨kp,kc,rfl,Vd⟩:=hk.view
 obtain ⟨W1,hW1⟩:∃ W1,(w.alloc (.cells #[.string ⟨f.name.toArray⟩,.int .i64 f.type,.slice kp f.kinds.length kc,.bool f.must,.int .i64 f.dk,.int .u64 f.dn,.string ⟨f.dt.toArray⟩,.slice none 0 0,.int .i64 0] 121)).alloc (.cells #[.int .i64 t.kind,.int .u64 t.num,.string t.text,.slice p t.list.length c,.int .i64 t.elem] 25)=W1:=⟨_,rfl⟩
 obtain ⟨x1,x2,hz1,hb1⟩:=bK (cs:=fA f (.slice kp f.kinds.length kc)) (ds:=t.cells (.slice p t.list.length c)) hW1
 have l1:=aG (x2.cell (j:=0) rfl)
 have l2:=rD (x1.cell (j:=3) rfl)
 have l3:=ag x2.1
 have hE1:=hE.below hb1
 have FX:=ajd (Hq (N:=N) t (.slice p t.list.length c) W1 hE1.2 hft ((hl.below (hb1.mono hB)).up (by omega)) (by omega))
 have X1:=ajd x1
 have X2:=ajd x2
 have HB1:=ajd hb1
 have AJ:=ajd hE1
 have MP:Hid (bR B W1 N (.slice p t.list.length c) t.list):=hl.below (hb1.mono hB)
 have HK1:=ajd (hk.below hb1)
 have aih:=ajd hRC
 have Vg:=ajd Fx
 have o7:=ajd hnd
 have YY:=ajd hft
 have Nr:Hid (gX (ai n) f t=if t.kind=0∧f.must=true then 72 else if aB t 1≠0∨t.kind=0 then aB t 1 else if bF f t=false then 73 else match ai n f t with| .error e=>e| .ok _=>0):=by
  show _=_
  unfold gX
  cases ai n f t<;>rfl
 obtain ⟨R,hR⟩:∃ R,gX (ai n) f t=R:=⟨_,rfl⟩
 obtain ⟨C,hC⟩:∃ C,aB t 1=C:=⟨_,rfl⟩
 rw [hR] at Nr ⊢
 rw [hC] at Nr FX
 have VJ:=ajd hC
 clear hl hk hE hE1 x1 x2 hb1 Vd hRC Fx hnd hR hC hft
 show Calls Tryz.prog 94 #[.agg #[.string ⟨f.name.toArray⟩,.int .i64 f.type,.slice kp f.kinds.length kc,.bool f.must,.int .i64 f.dk,.int .u64 f.dn,.string ⟨f.dt.toArray⟩,.slice none 0 0,.int .i64 0],.agg #[.int .i64 t.kind,.int .u64 t.num,.string t.text,.slice p t.list.length c,.int .i64 t.elem]] w _
 by_cases hm:t.kind=0∧f.must=true
 ·have oF:Hid (R=72):=Nr.out.trans (if_pos hm)
  rw [hm.1] at l1
  rw [hm.2] at l2
  clear hm
  go_enter Tryz.func94,Tryz.ntmps94
  go_wp2
  go_ret
  exact ⟨mF oF.out.symm,HB1.out⟩
 have Qx:=ajd (Nr.out.trans (if_neg hm))
 have aa6:Hid (Calls Tryz.prog 75 #[t.agg (.slice p t.list.length c)] W1 fun r w2=>r= .returned (.int .i64 C)∧Below W1.heap.size W1 w2):=FX.out.mono fun r w2 ⟨h1,h2⟩=>⟨h1,h2.below⟩
 by_cases hk0:t.kind=0
 ·have hmf:f.must=false:=by
   cases h:f.must with
   |false=>rfl
   |true=>exact absurd ⟨hk0,h⟩ hm
  have oF:Hid (R=C):=Qx.out.trans (if_pos (.inr hk0))
  have HKZ:Hid (∀ v,Below W1.heap.size W1 v→(Instr.loadAt 3 (.pointer (some ⟨w.heap.size+1,0,none⟩))).run Tryz.prog v= .ok (.int .i64 0) v):=fun v h=>by
   have:=aG ((X2.out.below h (by omega)).cell (j:=0) rfl)
   rw [←hk0];exact this
  rw [hk0] at l1
  rw [hmf] at l2
  clear hm hmf hk0
  by_cases hC0:C=0
  ·subst hC0
   go_enter Tryz.func94,Tryz.ntmps94
   go_wp2_with (go_at_call 75;refine aa6.out.mono ?_;rintro r w2 ⟨rfl,hb2⟩;have HB2:=ajd (HB1.out.trans (hb2.mono (by omega)));have l4:=HKZ.out w2 hb2;clear hb2)
   go_ret
   exact ⟨mF oF.out.symm,HB2.out⟩
  ·have hcb:(C !=0)=true:=by simp [hC0]
   clear hC0
   go_enter Tryz.func94,Tryz.ntmps94
   go_wp2_with (go_at_call 75;refine aa6.out.mono ?_;rintro r w2 ⟨rfl,hb2⟩;have HB2:=ajd (HB1.out.trans (hb2.mono (by omega)));have l4:=HKZ.out w2 hb2;clear hb2)
   go_ret
   exact ⟨mF oF.out.symm,HB2.out⟩
 have hkb:(t.kind==0)=false:=by simp [hk0]
 have Yz:=ajd hk0
 clear hm hk0
 by_cases hC0:C=0
 case neg=>
  have oF:Hid (R=C):=Qx.out.trans (if_pos (.inl hC0))
  have hcb:(C !=0)=true:=by simp [hC0]
  clear hC0
  go_enter Tryz.func94,Tryz.ntmps94
  go_wp2_with (go_at_call 75;refine aa6.out.mono ?_;rintro r w2 ⟨rfl,hb2⟩;have HB2:=ajd (HB1.out.trans (hb2.mono (by omega)));clear hb2)
  all_goals
   go_ret
   exact ⟨mF oF.out.symm,HB2.out⟩
 subst hC0
 have Qy:=ajd (Qx.out.trans (if_neg (by rintro (h|h);exact h rfl;exact Yz.out h)))
 obtain ⟨Z,hZ⟩:∃ Z,bF f t=Z:=⟨_,rfl⟩
 have Qo:=ajd hZ
 rw [hZ] at Qy
 go_enter Tryz.func94,Tryz.ntmps94
 go_wp2_with (go_at_call 75;refine aa6.out.mono ?_;rintro r w2 ⟨rfl,hb2⟩;have HB2:=ajd hb2;have l4:=aG ((X2.out.below hb2 (by omega)).cell (j:=0) rfl);have l5:=eY (X1.out.below hb2 (by omega)).1;have l6:=ag (X2.out.below hb2 (by omega)).1;have HWT:Hid (Calls Tryz.prog 106 #[jJ f (.slice kp f.kinds.length kc),t.agg (.slice p t.list.length c)] w2 fun r w'=>r= .returned (.bool Z)∧Below w2.heap.size w2 w'):=(by have:=EO (N:=N) (B:=B) f (.slice kp f.kinds.length kc) t (.slice p t.list.length c) w2 (AJ.out.below hb2) (HK1.out.below hb2) hkl YY.out (MP.out.below (hb2.mono (by omega))) (by have:=hb2.size;omega);rw [hZ] at this;exact this);clear hb2)
 refine HWT.out.mono ?_
 rintro r V ⟨rfl,hbv⟩
 have rX:=ajd (HB2.out.trans (hbv.mono HB2.out.size))
 have oz:=ajd (HB1.out.trans (rX.out.mono (by omega)))
 have Vi:W1.heap.size≤V.heap.size:=rX.out.size
 have gL:Hid (∀ v,Below V.heap.size V v→(Instr.loadAt 121 (.pointer (some ⟨w.heap.size,0,none⟩))).run Tryz.prog v= .ok (jJ f (.slice kp f.kinds.length kc)) v):=fun v h=>eY (X1.out.below (rX.out.trans (h.mono Vi)) (by omega)).1
 have Fz:Hid (∀ v,Below V.heap.size V v→(Instr.loadAt 25 (.pointer (some ⟨w.heap.size+1,0,none⟩))).run Tryz.prog v= .ok (t.agg (.slice p t.list.length c)) v):=fun v h=>ag (X2.out.below (rX.out.trans (h.mono Vi)) (by omega)).1
 have Sj:Hid (∀ v,Below V.heap.size V v→Env v∧bR B v N (.slice p t.list.length c) t.list∧B≤v.heap.size):=fun v h=>⟨AJ.out.below (rX.out.trans (h.mono Vi)),MP.out.below ((rX.out.trans (h.mono Vi)).mono (by omega)),by have:=h.size;omega⟩
 clear hbv
 cases Z with
 |false=>
  have oF:Hid (R=73):=Qy.out.trans (if_pos rfl)
  go_wp2
  go_ret
  exact ⟨mF oF.out.symm,oz.out⟩
 |true=>
  have Vj:=ajd (Qy.out.trans (if_neg (by simp)))
  by_cases h102:f.type=102
  ·have VK:Hid (JD f= .func (.func 122) #[] #[]):=if_pos h102
   obtain ⟨a,ha⟩:∃ a,ai n f t=a:=⟨_,rfl⟩
   have uQ:Hid (∀ v,Below V.heap.size V v→Calls Tryz.prog 122 #[t.agg (.slice p t.list.length c)] v fun r w'=>bG a v r w'):=fun v h=>by
    have:=aih.out B N f t _ v (Sj.out v h).1 YY.out (Sj.out v h).2.1 (Sj.out v h).2.2 h102 (Vg.out h102 Qo.out) o7.out
    rw [ha] at this
    exact this
   rw [ha] at Vj
   clear h102 ha
   have oF:Hid (R=Vh a):=Vj.out.trans (by cases a<;>rfl)
   obtain ⟨z,hz0⟩:∃ z,okV a=z:=⟨_,rfl⟩
   have hzD:V.drew.heap.size=V.heap.size:=rfl
   have hD:Below V.heap.size V V.drew:=(Below.refl _ _).drew
   have vV:Below V.heap.size V ((V.alloc (.cells #[.int .i64 0,.int .u64 0,.string ⟨#[]⟩,.slice none 0 0,.int .i64 0] 25)).drew):=((Below.refl _ _).alloc (Nat.le_refl _) _).drew
   have zi:=gL.out V.drew hD
   have AO:=Fz.out V.drew hD
   have zq:=gL.out ((V.alloc (.cells #[.int .i64 0,.int .u64 0,.string ⟨#[]⟩,.slice none 0 0,.int .i64 0] 25)).drew) vV
   have zu:=Fz.out ((V.alloc (.cells #[.int .i64 0,.int .u64 0,.string ⟨#[]⟩,.slice none 0 0,.int .i64 0] 25)).drew) vV
   go_wp2
   go_region_held3 (fun v=>(Instr.loadAt 121 (.pointer (some ⟨w.heap.size,0,none⟩))).run Tryz.prog v= .ok (jJ f (.slice kp f.kinds.length kc)) v∧(Instr.loadAt 25 (.pointer (some ⟨w.heap.size+1,0,none⟩))).run Tryz.prog v= .ok (t.agg (.slice p t.list.length c)) v)
    (first
      |with_reducible exact AR
      |with_reducible exact hv7
      |with_reducible exact hv6
      |with_reducible exact ⟨zw,zx⟩
      |with_reducible exact ⟨EP,ER⟩
      |with_reducible exact ⟨zq,zu⟩
      |with_reducible exact ⟨zi,AO⟩)
    ((first
      |(go_at_call 96
        go_must (
        first
         |(refine (dD f (.slice kp f.kinds.length kc) V.drew).mono ?_
           rintro r w5 ⟨rfl,cB⟩
           have hb5:Below V.heap.size V w5:=hD.trans cB)
         |(refine (dD f (.slice kp f.kinds.length kc) ((V.alloc (.cells #[.int .i64 0,.int .u64 0,.string ⟨#[]⟩,.slice none 0 0,.int .i64 0] 25)).drew)).mono ?_
           rintro r w5 ⟨rfl,cB⟩
           obtain ⟨xA0,oJ,_⟩:=aH (w:=V) (cs:=ah.cells (.slice none 0 0)) (T:=25) rfl
           have VN:V.heap.size+1≤w5.heap.size:=by have:=cB.size;have:((V.alloc (.cells #[.int .i64 0,.int .u64 0,.string ⟨#[]⟩,.slice none 0 0,.int .i64 0] 25)).drew).heap.size=V.heap.size+1:=oJ;omega
           have xA1:eF ((V.alloc (.cells #[.int .i64 0,.int .u64 0,.string ⟨#[]⟩,.slice none 0 0,.int .i64 0] 25)).drew) V.heap.size (ah.cells (.slice none 0 0)):=xA0.heap rfl
           have xA:eF w5 V.heap.size (ah.cells (.slice none 0 0)):=xA1.below cB (by have:((V.alloc (.cells #[.int .i64 0,.int .u64 0,.string ⟨#[]⟩,.slice none 0 0,.int .i64 0] 25)).drew).heap.size=V.heap.size+1:=oJ;omega)
           have hb5:Below V.heap.size V w5:=vV.trans (cB.mono vV.size)
           clear xA0 xA1 oJ)
        clear cB
        have oH:V.heap.size≤w5.heap.size:=hb5.size
        have EP:=gL.out w5 hb5
        have ER:=Fz.out w5 hb5
        have jy:Below V.heap.size V (w5.alloc (.cells #[.int .i64 0,.int .u64 0,.string ⟨#[]⟩,.slice none 0 0,.int .i64 0] 25)):=hb5.trans ((Below.refl _ _).alloc oH _)
        have zx:=Fz.out (w5.alloc (.cells #[.int .i64 0,.int .u64 0,.string ⟨#[]⟩,.slice none 0 0,.int .i64 0] 25)) jy
        have zw:=gL.out (w5.alloc (.cells #[.int .i64 0,.int .u64 0,.string ⟨#[]⟩,.slice none 0 0,.int .i64 0] 25)) jy
        rw [VK.out]))
      |(go_at_call 122
        go_must (
        first
         |(refine (uQ.out w5 hb5).mono ?_
           rintro r w6 bQ
           have hget:=bQ.afy
           rw [hz0] at hget
           obtain ⟨hb6,q6,c6,VL,rfl,zf,zo,zk,za⟩:=hget
           clear zf zo zk za
           have xG:w5.heap.size≤w6.heap.size:=hb6.size
           first
            |(have VO:=xA
              clear VO
              have x7:=xA.below hb6 (by have:V.heap.size+1≤w5.heap.size:=VN;omega)
              have h7:Below V.heap.size V w6:=hb5.trans (hb6.mono oH)
              have hbx:V.heap.size≤V.heap.size:=Nat.le_refl _
              have hv7:=And.intro (gL.out _ h7) (Fz.out _ h7)
              obtain ⟨X8,iw,_,pM,_,_⟩:=vQ x7 rfl (z) q6 (z.list.length) c6
              have rR:(Instr.storeAt 25 (.pointer (some ⟨V.heap.size,0,none⟩)) (.agg #[.int .i64 z.kind,.int .u64 z.num,.string z.text,.slice q6 z.list.length c6,.int .i64 z.elem])).run Tryz.prog w6= .ok () X8:=iw
              have h8:Below V.heap.size V X8:=h7.trans (pM.mono hbx)
              have Qt:=ajd h8
              have AR:=And.intro (gL.out _ h8) (Fz.out _ h8)
              clear h8 pM h7 x7 hb6)
            |(
              obtain ⟨x7,rY,kr⟩:=aH (w:=w6) (cs:=ah.cells (.slice none 0 0)) (T:=25) rfl
              have h6:Below V.heap.size V w6:=hb5.trans (hb6.mono oH)
              have h7:Below V.heap.size V (w6.alloc (.cells #[.int .i64 0,.int .u64 0,.string ⟨#[]⟩,.slice none 0 0,.int .i64 0] 25)):=h6.trans (kr.mono h6.size)
              have hbx:V.heap.size≤w6.heap.size:=h6.size
              have hv6:=And.intro (gL.out _ h6) (Fz.out _ h6)
              have hv7:=And.intro (gL.out _ h7) (Fz.out _ h7)
              obtain ⟨X8,iw,_,pM,_,_⟩:=vQ x7 rfl (z) q6 (z.list.length) c6
              have rR:(Instr.storeAt 25 (.pointer (some ⟨w6.heap.size,0,none⟩)) (.agg #[.int .i64 z.kind,.int .u64 z.num,.string z.text,.slice q6 z.list.length c6,.int .i64 z.elem])).run Tryz.prog (w6.alloc (.cells #[.int .i64 0,.int .u64 0,.string ⟨#[]⟩,.slice none 0 0,.int .i64 0] 25))= .ok () X8:=iw
              have h8:Below V.heap.size V X8:=h7.trans (pM.mono hbx)
              have Qt:=ajd h8
              have AR:=And.intro (gL.out _ h8) (Fz.out _ h8)
              clear h8 pM h7 x7 hb6))
         |(refine (uQ.out (w5.alloc (.cells #[.int .i64 0,.int .u64 0,.string ⟨#[]⟩,.slice none 0 0,.int .i64 0] 25)) jy).mono ?_
           rintro r w6 bQ
           have hget:=bQ.afy
           rw [hz0] at hget
           obtain ⟨hb6,q6,c6,VL,rfl,zf,zo,zk,za⟩:=hget
           clear zf zo zk za
           obtain ⟨xB,Sg,_⟩:=aH (w:=w5) (cs:=ah.cells (.slice none 0 0)) (T:=25) rfl
           have Sg:(w5.alloc (.cells #[.int .i64 0,.int .u64 0,.string ⟨#[]⟩,.slice none 0 0,.int .i64 0] 25)).heap.size=w5.heap.size+1:=Sg
           have xB:eF (w5.alloc (.cells #[.int .i64 0,.int .u64 0,.string ⟨#[]⟩,.slice none 0 0,.int .i64 0] 25)) w5.heap.size (ah.cells (.slice none 0 0)):=xB
           have xG:(w5.alloc (.cells #[.int .i64 0,.int .u64 0,.string ⟨#[]⟩,.slice none 0 0,.int .i64 0] 25)).heap.size≤w6.heap.size:=hb6.size
           have x7:=xB.below hb6 (by omega)
           have h7:Below V.heap.size V w6:=jy.trans (hb6.mono (by omega))
           have hbx:V.heap.size≤w5.heap.size:=by omega
           have hv7:=And.intro (gL.out _ h7) (Fz.out _ h7)
           obtain ⟨X8,iw,_,pM,_,_⟩:=vQ x7 rfl (z) q6 (z.list.length) c6
           have rR:(Instr.storeAt 25 (.pointer (some ⟨w5.heap.size,0,none⟩)) (.agg #[.int .i64 z.kind,.int .u64 z.num,.string z.text,.slice q6 z.list.length c6,.int .i64 z.elem])).run Tryz.prog w6= .ok () X8:=iw
           have h8:Below V.heap.size V X8:=h7.trans (pM.mono hbx)
           have Qt:=ajd h8
           have AR:=And.intro (gL.out _ h8) (Fz.out _ h8)
           clear h8 pM h7 x7 hb6)))))
   all_goals
    go_wp2
    go_ret
    exact ⟨mF oF.out.symm,oz.out.trans (Qt.out.mono (by omega))⟩
  ·have VK:Hid (JD f= .func (.func 123) #[] #[]):=if_neg h102
   have oF:Hid (R=0):=Vj.out.trans (by rw [aV n f t h102])
   have uQ:Hid (∀ v,Below V.heap.size V v→Calls Tryz.prog 123 #[t.agg (.slice p t.list.length c)] v fun r w'=>bG (.ok t) v r w'):=fun v h=>uO (N:=N) (B:=B) t _ v YY.out (Sj.out v h).2.1 (Sj.out v h).2.2 (by omega)
   clear h102
   have hzD:V.drew.heap.size=V.heap.size:=rfl
   have hD:Below V.heap.size V V.drew:=(Below.refl _ _).drew
   have vV:Below V.heap.size V ((V.alloc (.cells #[.int .i64 0,.int .u64 0,.string ⟨#[]⟩,.slice none 0 0,.int .i64 0] 25)).drew):=((Below.refl _ _).alloc (Nat.le_refl _) _).drew
   have zi:=gL.out V.drew hD
   have AO:=Fz.out V.drew hD
   have zq:=gL.out ((V.alloc (.cells #[.int .i64 0,.int .u64 0,.string ⟨#[]⟩,.slice none 0 0,.int .i64 0] 25)).drew) vV
   have zu:=Fz.out ((V.alloc (.cells #[.int .i64 0,.int .u64 0,.string ⟨#[]⟩,.slice none 0 0,.int .i64 0] 25)).drew) vV
   go_wp2
   go_region_held3 (fun v=>(Instr.loadAt 121 (.pointer (some ⟨w.heap.size,0,none⟩))).run Tryz.prog v= .ok (jJ f (.slice kp f.kinds.length kc)) v∧(Instr.loadAt 25 (.pointer (some ⟨w.heap.size+1,0,none⟩))).run Tryz.prog v= .ok (t.agg (.slice p t.list.length c)) v)
    (first
      |with_reducible exact AR
      |with_reducible exact hv7
      |with_reducible exact hv6
      |with_reducible exact ⟨zw,zx⟩
      |with_reducible exact ⟨EP,ER⟩
      |with_reducible exact ⟨zq,zu⟩
      |with_reducible exact ⟨zi,AO⟩)
    ((first
      |(go_at_call 96
        go_must (
        first
         |(refine (dD f (.slice kp f.kinds.length kc) V.drew).mono ?_
           rintro r w5 ⟨rfl,cB⟩
           have hb5:Below V.heap.size V w5:=hD.trans cB)
         |(refine (dD f (.slice kp f.kinds.length kc) ((V.alloc (.cells #[.int .i64 0,.int .u64 0,.string ⟨#[]⟩,.slice none 0 0,.int .i64 0] 25)).drew)).mono ?_
           rintro r w5 ⟨rfl,cB⟩
           obtain ⟨xA0,oJ,_⟩:=aH (w:=V) (cs:=ah.cells (.slice none 0 0)) (T:=25) rfl
           have VN:V.heap.size+1≤w5.heap.size:=by have:=cB.size;have:((V.alloc (.cells #[.int .i64 0,.int .u64 0,.string ⟨#[]⟩,.slice none 0 0,.int .i64 0] 25)).drew).heap.size=V.heap.size+1:=oJ;omega
           have xA1:eF ((V.alloc (.cells #[.int .i64 0,.int .u64 0,.string ⟨#[]⟩,.slice none 0 0,.int .i64 0] 25)).drew) V.heap.size (ah.cells (.slice none 0 0)):=xA0.heap rfl
           have xA:eF w5 V.heap.size (ah.cells (.slice none 0 0)):=xA1.below cB (by have:((V.alloc (.cells #[.int .i64 0,.int .u64 0,.string ⟨#[]⟩,.slice none 0 0,.int .i64 0] 25)).drew).heap.size=V.heap.size+1:=oJ;omega)
           have hb5:Below V.heap.size V w5:=vV.trans (cB.mono vV.size)
           clear xA0 xA1 oJ)
        clear cB
        have oH:V.heap.size≤w5.heap.size:=hb5.size
        have EP:=gL.out w5 hb5
        have ER:=Fz.out w5 hb5
        have jy:Below V.heap.size V (w5.alloc (.cells #[.int .i64 0,.int .u64 0,.string ⟨#[]⟩,.slice none 0 0,.int .i64 0] 25)):=hb5.trans ((Below.refl _ _).alloc oH _)
        have zx:=Fz.out (w5.alloc (.cells #[.int .i64 0,.int .u64 0,.string ⟨#[]⟩,.slice none 0 0,.int .i64 0] 25)) jy
        have zw:=gL.out (w5.alloc (.cells #[.int .i64 0,.int .u64 0,.string ⟨#[]⟩,.slice none 0 0,.int .i64 0] 25)) jy
        rw [VK.out]))
      |(go_at_call 123
        go_must (
        first
         |(refine (uQ.out w5 hb5).mono ?_
           rintro r w6 bQ
           obtain ⟨hb6,Sc,VL,rfl,zf,zo,zk,za⟩:=bQ
           obtain ⟨q6,c6,rfl⟩:=zo.slice
           clear zf zo zk za
           have xG:w5.heap.size≤w6.heap.size:=hb6.size
           first
            |(have VO:=xA
              clear VO
              have x7:=xA.below hb6 (by have:V.heap.size+1≤w5.heap.size:=VN;omega)
              have h7:Below V.heap.size V w6:=hb5.trans (hb6.mono oH)
              have hbx:V.heap.size≤V.heap.size:=Nat.le_refl _
              have hv7:=And.intro (gL.out _ h7) (Fz.out _ h7)
              obtain ⟨X8,iw,_,pM,_,_⟩:=vQ x7 rfl (t) q6 (t.list.length) c6
              have rR:(Instr.storeAt 25 (.pointer (some ⟨V.heap.size,0,none⟩)) (.agg #[.int .i64 t.kind,.int .u64 t.num,.string t.text,.slice q6 t.list.length c6,.int .i64 t.elem])).run Tryz.prog w6= .ok () X8:=iw
              have h8:Below V.heap.size V X8:=h7.trans (pM.mono hbx)
              have Qt:=ajd h8
              have AR:=And.intro (gL.out _ h8) (Fz.out _ h8)
              clear h8 pM h7 x7 hb6)
            |(
              obtain ⟨x7,rY,kr⟩:=aH (w:=w6) (cs:=ah.cells (.slice none 0 0)) (T:=25) rfl
              have h6:Below V.heap.size V w6:=hb5.trans (hb6.mono oH)
              have h7:Below V.heap.size V (w6.alloc (.cells #[.int .i64 0,.int .u64 0,.string ⟨#[]⟩,.slice none 0 0,.int .i64 0] 25)):=h6.trans (kr.mono h6.size)
              have hbx:V.heap.size≤w6.heap.size:=h6.size
              have hv6:=And.intro (gL.out _ h6) (Fz.out _ h6)
              have hv7:=And.intro (gL.out _ h7) (Fz.out _ h7)
              obtain ⟨X8,iw,_,pM,_,_⟩:=vQ x7 rfl (t) q6 (t.list.length) c6
              have rR:(Instr.storeAt 25 (.pointer (some ⟨w6.heap.size,0,none⟩)) (.agg #[.int .i64 t.kind,.int .u64 t.num,.string t.text,.slice q6 t.list.length c6,.int .i64 t.elem])).run Tryz.prog (w6.alloc (.cells #[.int .i64 0,.int .u64 0,.string ⟨#[]⟩,.slice none 0 0,.int .i64 0] 25))= .ok () X8:=iw
              have h8:Below V.heap.size V X8:=h7.trans (pM.mono hbx)
              have Qt:=ajd h8
              have AR:=And.intro (gL.out _ h8) (Fz.out _ h8)
              clear h8 pM h7 x7 hb6))
         |(refine (uQ.out (w5.alloc (.cells #[.int .i64 0,.int .u64 0,.string ⟨#[]⟩,.slice none 0 0,.int .i64 0] 25)) jy).mono ?_
           rintro r w6 bQ
           obtain ⟨hb6,Sc,VL,rfl,zf,zo,zk,za⟩:=bQ
           obtain ⟨q6,c6,rfl⟩:=zo.slice
           clear zf zo zk za
           obtain ⟨xB,Sg,_⟩:=aH (w:=w5) (cs:=ah.cells (.slice none 0 0)) (T:=25) rfl
           have Sg:(w5.alloc (.cells #[.int .i64 0,.int .u64 0,.string ⟨#[]⟩,.slice none 0 0,.int .i64 0] 25)).heap.size=w5.heap.size+1:=Sg
           have xB:eF (w5.alloc (.cells #[.int .i64 0,.int .u64 0,.string ⟨#[]⟩,.slice none 0 0,.int .i64 0] 25)) w5.heap.size (ah.cells (.slice none 0 0)):=xB
           have xG:(w5.alloc (.cells #[.int .i64 0,.int .u64 0,.string ⟨#[]⟩,.slice none 0 0,.int .i64 0] 25)).heap.size≤w6.heap.size:=hb6.size
           have x7:=xB.below hb6 (by omega)
           have h7:Below V.heap.size V w6:=jy.trans (hb6.mono (by omega))
           have hbx:V.heap.size≤w5.heap.size:=by omega
           have hv7:=And.intro (gL.out _ h7) (Fz.out _ h7)
           obtain ⟨X8,iw,_,pM,_,_⟩:=vQ x7 rfl (t) q6 (t.list.length) c6
           have rR:(Instr.storeAt 25 (.pointer (some ⟨w5.heap.size,0,none⟩)) (.agg #[.int .i64 t.kind,.int .u64 t.num,.string t.text,.slice q6 t.list.length c6,.int .i64 t.elem])).run Tryz.prog w6= .ok () X8:=iw
           have h8:Below V.heap.size V X8:=h7.trans (pM.mono hbx)
           have Qt:=ajd h8
           have AR:=And.intro (gL.out _ h8) (Fz.out _ h8)
           clear h8 pM h7 x7 hb6)))))
   all_goals
    go_wp2
    go_ret
    exact ⟨mF oF.out.symm,oz.out.trans (Qt.out.mono (by omega))⟩
theorem fo {v:World} {b:Nat} {cs:List Value} (x:eF v b cs) (hl:cs.length=5) (t:VT) (a:Option Addr) (n c:Nat):∃ X,(Instr.storeAt 25 (.pointer (some ⟨b,0,none⟩)) (t.agg (.slice a n c))).run Tryz.prog v= .ok () X∧eF X b (t.cells (.slice a n c))∧Below b v X∧X.heap.size=v.heap.size:=
 ⟨v.setCells b 0 (t.cells (.slice a n c)),aD (x.part (o:=0) (n:=5) (by omega)),x.all (vs:=t.cells (.slice a n c)) (by rw [hl];rfl),au (Nat.le_refl _) _ _,aC ..⟩
def Ns (k:Int) (l:List VT) (o:Option (List FT)):Int:=match o with|none=>70|some fs=>if l.length≠fs.length then 71 else if dI (ai 3) fs l≠0 then dI (ai 3) fs l else if 32<gV (aU 3 k l) then 26 else 0
theorem JM (k:Int) (l:List VT):recC (ai 3) (aU 3) k l=Ns k l (aN k):=by
 unfold recC Ns
 cases aN k<;>rfl
theorem JN {N B:Nat} (k:Int) (l:List VT) (lv:Value) (w:World) (hE:Env w) (hl:bR B w N lv l) (hB:B≤w.heap.size) (hnd:(aj l+13)*2^3≤800000000):
 Calls Tryz.prog 76 #[.agg #[.int .i64 k,lv]] w fun r w'=>r= .returned (.int .i64 (recC (ai 3) (aU 3) k l))∧Below w.heap.size w w':=by
 obtain ⟨p,c,rfl⟩:=hl.slice
 obtain ⟨W1,hW1⟩:∃ W1,w.alloc (.cells #[.int .i64 k,.slice p l.length c] 91)=W1:=⟨_,rfl⟩
 obtain ⟨x1,hz1,hb1⟩:=aH (cs:=[.int .i64 k,.slice p l.length c]) hW1
 have l0:=aG (x1.cell (j:=0) rfl)
 have X1:=ajd x1
 have HB1:=ajd hb1
 have AJ:=ajd (hE.below hb1)
 have HL:=ajd hl
 have o7:=ajd hnd
 have rE:=xE k W1
 unfold gH at rE
 obtain ⟨R,hR⟩:∃ R,recC (ai 3) (aU 3) k l=R:=⟨_,rfl⟩
 obtain ⟨of,hof⟩:∃ of,aN k=of:=⟨_,rfl⟩
 have BP:=ajd hof
 have HR:Hid (R=Ns k l of):=by
  show R=_
  rw [←hR,←hof];exact JM k l
 rw [hof] at rE
 rw [hR]
 have JF:=ajd rE
 clear hl x1 hb1 hE hnd rE hR
 go_enter Tryz.func76,Tryz.ntmps76
 go_wp2_with (fail)
 clear hW1 l0
 refine JF.out.mono ?_
 rintro r w2 ⟨vf,rfl,hfo,hb2⟩
 have z2:=hb2.size
 have xI:=ajd (X1.out.below hb2 (by omega))
 have HB2:=ajd (HB1.out.trans (hb2.mono (by omega)))
 have HE2:=ajd (AJ.out.below hb2)
 clear hb2
 cases of with
 |none=>
  have oF:Hid (R=70):=HR.out
  rcases hfo with ⟨_,rfl⟩|⟨h,_⟩
  ·go_wp2
   go_ret
   exact ⟨mF oF.out.symm,HB2.out⟩
  ·exact absurd rfl h
 |some fs=>
  have HRR:Hid (R=if l.length≠fs.length then 71 else if dI (ai 3) fs l≠0 then dI (ai 3) fs l else if 32<gV (aU 3 k l) then 26 else 0):=HR.out
  have JG:j6 W1.heap.size w2.heap.size w2 vf fs:=hfo
  obtain ⟨fp,fc,rfl,hu⟩:=JG.view
  have Cg:Hid (j6 W1.heap.size w2.heap.size w2 (.slice fp fs.length fc) fs):=JG
  have hfl:=fP BP.out
  obtain ⟨m,hm⟩:∃ m,fs.length=m:=⟨_,rfl⟩
  obtain ⟨g,hg⟩:∃ g,l.length=g:=⟨_,rfl⟩
  have Hm:=ajd hm
  have Hg:=ajd hg
  have hgl:g≤900000000:=by
   have h1:=fZ l
   have:=o7.out
   omega
  simp only [Option.isSome_some]
  rw [hm] at Cg hfl ⊢
  rw [hg] at X1 xI HL
  have l2:=aF (xI.out.cell (j:=1) rfl)
  clear hfo JG hu hm hg HR
  by_cases hne:g=m
  case neg=>
   have oF:Hid (R=71):=HRR.out.trans (if_pos (by rw [Hm.out,Hg.out];exact hne))
   have hnb:((g:Int)!=(m:Int))=true:=by simp;omega
   clear hne
   go_wp2
   go_ret
   exact ⟨mF oF.out.symm,HB2.out⟩
  subst hne
  have HR2:=ajd (HRR.out.trans (if_neg (by rw [Hm.out,Hg.out];simp)))
  go_wp2
  clear l2
  go_loopw [27] (fun iv wr=>∃ j:Nat,iv= .int .i64 j∧j≤g∧Hid (dI (ai 3) fs l=dI (ai 3) (fs.drop j) (l.drop j))∧Hid (Below w2.heap.size w2 wr)) (fun iv _=>g-(intOf iv).toNat)
  case atStart=>exact ⟨0,rfl,Nat.zero_le _,(by show dI _ _ _=_;simp),Below.refl _ _⟩
  case round=>
   obtain ⟨j,rfl,hj,HJ,EZ⟩:=hrel
   by_cases EY:j<g
   ·obtain ⟨x,hx⟩:∃ x,l[j]? =some x:=⟨_,List.getElem?_eq_getElem (by rw [Hg.out];exact EY)⟩
    obtain ⟨f,hf⟩:∃ f,fs[j]? =some f:=⟨_,List.getElem?_eq_getElem (by rw [Hm.out];exact EY)⟩
    cases N with
    |zero=>exact HL.out.elim
    |succ N=>
    rcases HL.out with ⟨h0,_⟩|⟨b,off,c',hp,jy,_,hel⟩
    ·exfalso;have:=Hg.out;rw [h0] at this;simp at this;omega
    rw [Hg.out] at hp
    cases hp
    obtain ⟨xf,xlv,Nc,xl⟩:=hel j x hx
    obtain ⟨xq,xd,rfl⟩:=xl.slice
    have hbw:Below B w wr:=(HB2.out.trans (EZ.out.mono (by have:=HB2.out.size;omega))).mono hB
    obtain ⟨q1,d1,e1,hv⟩:=(Cg.out.below EZ.out).view
    obtain ⟨fb,jX,kv,rfl,ZA,⟨a0,a1,a2,a3,a4,a5,a6,a7,a8⟩,hkv⟩:=hv j f hf
    simp only [Value.slice.injEq] at e1
    obtain ⟨rfl, -, -⟩:=e1
    obtain ⟨kp,kc,rfl,Vd⟩:=hkv.view
    have hcf:Cells wr fb (jX+j*9) (fA f (.slice kp f.kinds.length kc)):=fun j u hu=>by
     match j,hu with
     |0,hu=>cases hu;exact a0
     |1,hu=>cases hu;exact a1
     |2,hu=>cases hu;exact a2
     |3,hu=>cases hu;exact a3
     |4,hu=>cases hu;exact a4
     |5,hu=>cases hu;exact a5
     |6,hu=>cases hu;exact a6
     |7,hu=>cases hu;exact a7
     |8,hu=>cases hu;exact a8
     |j+9,hu=>simp [fA] at hu
    have le:=ag (dW (Nc.below hbw jy))
    have hj0:(0:Int)≤(j:Int):=by omega
    have hj1:(j:Int)<(g:Int):=by omega
    obtain ⟨Wa,hWa⟩:∃ Wa,wr.alloc (.cells #[.int .i64 0,.int .u64 0,.string ⟨#[]⟩,.slice none 0 0,.int .i64 0] 25)=Wa:=⟨_,rfl⟩
    obtain ⟨xa,hza,hba⟩:=aH (cs:=ah.cells (.slice none 0 0)) hWa
    obtain ⟨Wb,hst,xb,hbb,hzb⟩:=fo xa rfl x xq x.list.length xd
    have hab:Below wr.heap.size wr Wb:=hba.trans hbb
    have HAB:=ajd hab
    have hnx:nodes x≤aj l:=gY (List.mem_of_getElem? hx)
    have hkl:f.kinds.length≤1000:=by
     obtain ⟨e,he,_,h2⟩:=eU BP.out
     have:=(xV e he).2 f (by rw [h2];exact List.mem_of_getElem? hf)
     omega
    have TG:=EZ.out.size
    have wI:=HB2.out.size
    have gL:Hid (∀ v,Below Wb.heap.size Wb v→(Instr.loadAt 121 (.pointer (some ⟨fb,jX+j*9,none⟩))).run Tryz.prog v= .ok (jJ f (.slice kp f.kinds.length kc)) v∧(Instr.loadAt 25 (.pointer (some ⟨wr.heap.size,0,none⟩))).run Tryz.prog v= .ok (x.agg (.slice xq x.list.length xd)) v):=fun v h=>by
     have hc:Cells v fb (jX+j*9) (fA f (.slice kp f.kinds.length kc)):=fun j u hu=>(h.cell (p:=⟨fb,_,none⟩) (by show fb<Wb.heap.size;omega)).trans ((hab.cell (p:=⟨fb,_,none⟩) ZA).trans (hcf j u hu))
     exact ⟨eY hc,ag (xb.below h (by omega)).1⟩
    have FX:Hid (∀ v,Below Wb.heap.size Wb v→Calls Tryz.prog 94 #[jJ f (.slice kp f.kinds.length kc),x.agg (.slice xq x.list.length xd)] v fun r w'=>r= .returned (.int .i64 (gX (ai 3) f x))∧Below v.heap.size v w'):=fun v h=>
     Qw (B:=B) (N:=N) (vP 3) f (.slice kp f.kinds.length kc) x (.slice xq x.list.length xd) v (((HE2.out.below EZ.out).below hab).below h) ((hkv.below hab).below h) hkl xf (((xl.below hbw).below (hab.mono (by omega))).below (h.mono (by omega))) (by have:=h.size;omega) (fun h1 h2=>Nat.lt_of_lt_of_le (nk BP.out (List.mem_of_getElem? hf) h1 h2) (Gh k)) (Nat.le_trans (Nat.mul_le_mul_right _ (Nat.add_le_add_right hnx 13)) o7.out)
    have HJ2:=ajd (HJ.out.trans (xY hf hx))
    obtain ⟨E,hE⟩:∃ E,gX (ai 3) f x=E:=⟨_,rfl⟩
    rw [hE] at FX HJ2
    clear hel hx hf Nc xl hv hkv Vd a0 a1 a2 a3 a4 a5 a6 a7 a8 hcf xa hba xb hbb hab hnx hkl hE hbw
    go_wp2
    go_region_held3 (fun v=>(Instr.loadAt 121 (.pointer (some ⟨fb,jX+j*9,none⟩))).run Tryz.prog v= .ok (jJ f (.slice kp f.kinds.length kc)) v∧(Instr.loadAt 25 (.pointer (some ⟨wr.heap.size,0,none⟩))).run Tryz.prog v= .ok (x.agg (.slice xq x.list.length xd)) v)
     (first
       |with_reducible exact gL.out _ hb5
       |with_reducible exact gL.out _ (Below.refl _ _).drew
       |with_reducible exact gL.out _ (Below.refl _ _))
     ((go_at_call 94;refine (FX.out _ (Below.refl _ _).drew).mono ?_;rintro r V ⟨rfl,cB⟩;have hb5:Below Wb.heap.size Wb V:=(Below.refl _ _).drew.trans cB;clear cB))
    have oz:Hid (Below w2.heap.size w2 V):=EZ.out.trans ((HAB.out.trans (hb5.mono HAB.out.size)).mono (by omega))
    clear hb5
    by_cases hE0:E=0
    ·subst hE0
     have HJ3:=ajd (HJ2.out.trans (if_neg (by simp)))
     go_wp2
     go_roundw
     case rel=>exact ⟨j+1,by go_num,by omega,HJ3.out,oz.out⟩
     case measure=>simp [intOf];omega
    ·have hEb:(E !=0)=true:=by simp [hE0]
     have HJ3:=ajd (HJ2.out.trans (if_pos hE0))
     have oF:Hid (R=E):=HR2.out.trans ((if_pos (by rw [HJ3.out];exact hE0)).trans HJ3.out)
     clear hE0
     go_wp2
     go_ret
     exact ⟨mF oF.out.symm,HB2.out.trans (oz.out.mono (by have:=HB2.out.size;omega))⟩
   ·obtain rfl:j=g:=by omega
    have HJ0:Hid (dI (ai 3) fs l=0):=by
     show _=_
     rw [HJ.out,List.drop_eq_nil_of_le (by rw [Hm.out];omega)];rfl
    have HR3:=ajd (HR2.out.trans (if_neg (by rw [HJ0.out];simp)))
    have TG:=EZ.out.size
    have wI:=HB2.out.size
    have lr:=gI (xI.out.below EZ.out (by omega))
    have Si:=ajd (Nq 3 B N k fs l (.slice p j c) wr (HE2.out.below EZ.out) BP.out (by rw [Hg.out,Hm.out]) (HL.out.below ((HB2.out.trans (EZ.out.mono (by omega))).mono hB)) (by omega) (Gh k) o7.out (fun i f v hf hv=>if h:v.kind=0 then .inl h else .inr (.inr ((xU HJ0.out i f v hf hv).2 h).1)))
    go_wp2_with (fail)
    refine Si.out.mono ?_
    rintro r w5 ⟨lv5,us5,rfl,Fy,Vf,aa5,hb5⟩
    obtain ⟨q5,c5,rfl⟩:=Fy.slice
    have HDP:=ajd (UO (N:=LV) (aU 3 k l) (.slice q5 (aU 3 k l).list.length c5) w5 (kV _ _) Fy.vX (by have h1:nodes (aU 3 k l)≤2*aj l+3:=sU (zM 3) k l;have:=o7.out;omega))
    have Sa:=ajd (HB2.out.trans ((EZ.out.trans (hb5.mono (by omega))).mono (by omega)))
    clear Fy Vf aa5
    obtain ⟨D,hD⟩:∃ D,gV (aU 3 k l)=D:=⟨_,rfl⟩
    rw [hD] at HDP HR3
    clear hD hb5
    go_wp2_with (fail)
    refine HDP.out.mono ?_
    rintro r w6 ⟨rfl,hk6⟩
    have NN:=ajd (Sa.out.trans (hk6.below.mono (by have:=Sa.out.size;omega)))
    clear hk6
    by_cases hd:32<D
    ·have oF:Hid (R=26):=HR3.out.trans (if_pos hd)
     have hdb:decide ((D:Int)>32)=true:=by simp;omega
     go_wp2
     go_ret
     exact ⟨mF oF.out.symm,NN.out⟩
    ·have oF:Hid (R=0):=HR3.out.trans (if_neg hd)
     have hdb:decide ((D:Int)>32)=false:=by simp;omega
     go_wp2
     go_ret
     exact ⟨mF oF.out.symm,NN.out⟩
theorem Ht {k:Int} {l:List VT} (h:recC (ai 3) (aU 3) k l=0):∃ fs,aN k=some fs∧l.length=fs.length∧dI (ai 3) fs l=0:=by
 rw [JM] at h
 unfold Ns at h
 cases hf:aN k with
 |none=>rw [hf] at h;simp at h
 |some fs=>
  rw [hf] at h
  simp only at h
  refine ⟨fs,rfl,?_⟩
  split at h
  ·omega
  ·rename_i h1
   split at h
   ·rename_i h2;exact absurd h h2
   ·rename_i h2;exact ⟨by omega,by omega⟩
def eB (k:Int) (l:List VT) (C:Int):Except Int VT:=if C=0 then .ok (aU 3 k l) else .error C
theorem Nt {N B:Nat} (k:Int) (l:List VT) (lv:Value) (w:World) (hE:Env w) (hl:bR B w N lv l) (hB:B≤w.heap.size) (hnd:(aj l+13)*2^3≤800000000):
 Calls Tryz.prog 56 #[.agg #[.int .i64 k,lv]] w fun r w'=>bG (eB k l (recC (ai 3) (aU 3) k l)) w r w':=by
 obtain ⟨p,c,rfl⟩:=hl.slice
 obtain ⟨W1,hW1⟩:∃ W1,(w.alloc (.cells #[.int .i64 k,.slice p l.length c] 91)).alloc (.cells #[.int .i64 0,.int .u64 0,.string ⟨#[]⟩,.slice none 0 0,.int .i64 0] 25)=W1:=⟨_,rfl⟩
 obtain ⟨x1,x2,hz1,hb1⟩:=bK (cs:=[.int .i64 k,.slice p l.length c]) (ds:=ah.cells (.slice none 0 0)) hW1
 have l0:=gI x1
 have HC:=ajd (JN (N:=N) (B:=B) k l (.slice p l.length c) W1 (hE.below hb1) (hl.below (hb1.mono hB)) (by omega) hnd)
 have X1:=ajd x1
 have X2:=ajd x2
 have HB1:=ajd hb1
 have AJ:=ajd (hE.below hb1)
 have MP:Hid (bR B W1 N (.slice p l.length c) l):=hl.below (hb1.mono hB)
 have o7:=ajd hnd
 obtain ⟨C,hC⟩:∃ C,recC (ai 3) (aU 3) k l=C:=⟨_,rfl⟩
 have VJ:=ajd hC
 rw [hC] at HC ⊢
 clear hl x1 x2 hb1 hE hnd hC
 go_enter Tryz.func56,Tryz.ntmps56
 go_wp2_with (fail)
 clear hW1 l0
 refine HC.out.mono ?_
 rintro r w2 ⟨rfl,hb2⟩
 have z2:W1.heap.size≤w2.heap.size:=hb2.size
 have Au:=X2.out.below hb2 (by omega)
 have HB2:=ajd (HB1.out.trans (hb2.mono (by omega)))
 by_cases hC0:C=0
 ·subst hC0
  obtain ⟨fs,hfs,hll,hfc⟩:=Ht VJ.out
  have l5:=gI (X1.out.below hb2 (by omega))
  have Si:=ajd (Nq 3 B N k fs l (.slice p l.length c) w2 (AJ.out.below hb2) hfs hll (MP.out.below (hb2.mono (by omega))) (by omega) (Gh k) o7.out (fun i f v hf hv=>if h:v.kind=0 then .inl h else .inr (.inr ((xU hfc i f v hf hv).2 h).1)))
  have X2c:=ajd Au
  clear hfs hll hfc hb2 Au
  go_wp2_with (fail)
  refine Si.out.mono ?_
  rintro r w6 ⟨Sc,VL,rfl,Sb,FW,Nn,hb6⟩
  obtain ⟨q6,c6,rfl⟩:=Sb.slice
  have z6:w2.heap.size≤w6.heap.size:=hb6.size
  obtain ⟨X7,hs7,wN,kr,rY,hsame⟩:=bL (X2c.out.below hb6 (by omega)) rfl (aU 3 k l) q6 (aU 3 k l).list.length c6
  have iJ:=ajd wN
  have HQ:Hid (bG (eB k l 0) w (.returned (.tuple #[(aU 3 k l).agg (.slice q6 (aU 3 k l).list.length c6),.int .i64 0])) X7):=by
   show bG (.ok (aU 3 k l)) w _ X7
   refine ⟨(HB2.out.trans (hb6.mono (by omega))).trans (kr.mono (by omega)),_,VL,rfl,kV _ _,Sb.heap (by omega) fun u hu b hb=>hsame b (by have:=FW u hu b hb;omega),?_,Nn⟩
   rw [rY]
   exact FW.mono (by omega) (Nat.le_refl _)
  clear wN kr rY hsame Sb FW Nn hb6
  go_wp2
  exact bodyPost_ret_by (az rfl rfl iJ.out rfl) rfl HQ.out
 ·have hcb:(C !=0)=true:=by simp [hC0]
  obtain ⟨X6,hs6,NM,hb6,xG,_⟩:=bL Au rfl ah none 0 0
  replace hs6:(Instr.storeAt 25 (.pointer (some ⟨w.heap.size+1,0,none⟩)) (.agg #[.int .i64 0,.int .u64 0,.string ⟨#[]⟩,.slice none 0 0,.int .i64 0])).run Tryz.prog w2= .ok () X6:=hs6
  have iJ:=ajd NM
  have HQ:Hid (bG (eB k l C) w (.returned (.tuple #[ah.agg (.slice none 0 0),.int .i64 C])) X6):=by
   show bG (eB k l C) w _ X6
   unfold eB
   rw [if_neg hC0]
   exact ⟨HB2.out.trans (hb6.mono (by omega)),rfl⟩
  clear NM hb6 xG hC0 hb2 Au
  go_wp2
  exact bodyPost_ret_by (az rfl rfl iJ.out rfl) rfl HQ.out
end Go.Proofs.YtmldhjoolebjoaaGreatDoor.Va
namespace Go.Proofs.YtmldhjoolebjoaaGreatDoor.Va
open Go Go.RowKit Nu Uc
theorem uU (s:ByteArray):s.toList.isEmpty= !decide (0<s.size):=by
 rw [Lib.toList_data,Lib.size_eq]
 cases s.data.toList<;>simp
theorem o8 {c:Nat} (h:(97≤c∧c≤122)∨(48≤c∧c≤57)∨c=45∨c=58):cnd c=true:=by
 simp only [cnd,Bool.or_eq_true,Bool.and_eq_true,decide_eq_true_eq];omega
theorem AU {c:Nat} (h:¬((97≤c∧c≤122)∨(48≤c∧c≤57)∨c=45∨c=58)):cnd c=false:=by
 rw [Bool.eq_false_iff,ne_eq]
 simp only [cnd,Bool.or_eq_true,Bool.and_eq_true,decide_eq_true_eq];omega
theorem Qz (s:ByteArray) (w:World) (hs:s.size≤9223372036854775807):
 Calls Tryz.prog 53 #[.string s] w fun e w'=>e= .returned (.bool (lV s))∧w'=w:=by
 go_enter Tryz.func53,Tryz.ntmps53
 go_wp2
 go_loop [7] (fun i=>∃ (k:Nat),i= .int .i64 k∧k≤s.size∧Hid (eu s k=eu s 0)) (fun i=>s.size-(intOf i).toNat)
 case atStart=>exact ⟨0,rfl,Nat.zero_le _,rfl⟩
 case round=>
  obtain ⟨k,rfl,hk,HQ⟩:=hrel
  by_cases hlt:k<s.size
  ·obtain ⟨c,hc⟩:∃ c,s[k].toNat=c:=⟨_,rfl⟩
   have HB:Hid (cnd c=false→lV s=false):=fun h=>KU hlt HQ.out (by rw [hc];exact h)
   have HN:Hid (cnd c=true→eu s (k+1)=eu s 0):=fun h=>Gp hlt HQ.out (by rw [hc];exact h)
   have hlt':(k:Int)<(s.size:Int):=by omega
   by_cases h1:97≤c
   ·by_cases h2:c≤122
    ·have q0:(97:Int)≤(c:Int):=by omega
     have q1:(c:Int)≤122:=by omega
     have HE:=ajd (HN.out (o8 (by omega)))
     clear HB HN
     go_wp2
     go_round
     case rel=>exact ⟨k+1,by go_num,by omega,HE.out⟩
     case measure=>simp [intOf];omega
    ·have q0:(97:Int)≤(c:Int):=by omega
     have q1:¬(c:Int)≤122:=by omega
     have q2:(48:Int)≤(c:Int):=by omega
     have q3:¬(c:Int)≤57:=by omega
     have q4:¬(c:Int)=45:=by omega
     have q5:¬(c:Int)=58:=by omega
     have HE:=ajd (HB.out (AU (by omega)))
     clear HB HN
     go_wp2
     go_ret
     exact ⟨ay HE.out.symm,rfl⟩
   ·by_cases h3:48≤c
    ·by_cases h4:c≤57
     ·have q0:¬(97:Int)≤(c:Int):=by omega
      have q1:(48:Int)≤(c:Int):=by omega
      have q2:(c:Int)≤57:=by omega
      have HE:=ajd (HN.out (o8 (by omega)))
      clear HB HN
      go_wp2
      go_round
      case rel=>exact ⟨k+1,by go_num,by omega,HE.out⟩
      case measure=>simp [intOf];omega
     ·by_cases h5:c=58
      ·have q0:¬(97:Int)≤(c:Int):=by omega
       have q1:(48:Int)≤(c:Int):=by omega
       have q2:¬(c:Int)≤57:=by omega
       have q3:¬(c:Int)=45:=by omega
       have q4:(c:Int)=58:=by omega
       have HE:=ajd (HN.out (o8 (by omega)))
       clear HB HN
       go_wp2
       go_round
       case rel=>exact ⟨k+1,by go_num,by omega,HE.out⟩
       case measure=>simp [intOf];omega
      ·have q0:¬(97:Int)≤(c:Int):=by omega
       have q1:(48:Int)≤(c:Int):=by omega
       have q2:¬(c:Int)≤57:=by omega
       have q3:¬(c:Int)=45:=by omega
       have q4:¬(c:Int)=58:=by omega
       have HE:=ajd (HB.out (AU (by omega)))
       clear HB HN
       go_wp2
       go_ret
       exact ⟨ay HE.out.symm,rfl⟩
    ·by_cases h5:c=45
     ·have q0:¬(97:Int)≤(c:Int):=by omega
      have q1:¬(48:Int)≤(c:Int):=by omega
      have q2:(c:Int)=45:=by omega
      have HE:=ajd (HN.out (o8 (by omega)))
      clear HB HN
      go_wp2
      go_round
      case rel=>exact ⟨k+1,by go_num,by omega,HE.out⟩
      case measure=>simp [intOf];omega
     ·have q0:¬(97:Int)≤(c:Int):=by omega
      have q1:¬(48:Int)≤(c:Int):=by omega
      have q2:¬(c:Int)=45:=by omega
      have q3:¬(c:Int)=58:=by omega
      have HE:=ajd (HB.out (AU (by omega)))
      clear HB HN
      go_wp2
      go_ret
      exact ⟨ay HE.out.symm,rfl⟩
  ·obtain rfl:k=s.size:=by omega
   have HE:=ajd (KW HQ.out)
   have he:=uU s
   by_cases h0:0<s.size
   ·have he2:s.toList.isEmpty=false:=by rw [he,decide_eq_true h0];rfl
    by_cases h64:(s.size:Int)≤64
    ·have h1:lV s=true:=by rw [HE.out,decide_eq_true h0,decide_eq_true (by omega)];rfl
     clear he
     go_wp2
     go_ret
     exact ⟨ay rfl,rfl⟩
    ·have h1:lV s=false:=by rw [HE.out,decide_eq_false (by omega:¬s.size≤64),Bool.and_false]
     clear he
     go_wp2
     go_ret
     exact ⟨ay rfl,rfl⟩
   ·have he2:s.toList.isEmpty=true:=by rw [he,decide_eq_false h0];rfl
    have h1:lV s=false:=by rw [HE.out,decide_eq_false h0];rfl
    clear he
    go_wp2
    go_ret
    exact ⟨ay rfl,rfl⟩
theorem QA (s:ByteArray) (w:World) (hT:qL w) (hs:s.size≤9223372036854775807):
 Calls Tryz.prog 54 #[.string s] w fun e w'=>e= .returned (.bool (Bd s))∧Below w.heap.size w w':=by
 have HU:=ajd (M3 s w hT hs)
 clear hT
 go_enter Tryz.func54,Tryz.ntmps54
 by_cases h:(s.size:Int)≤4096
 ·have hd:decide (s.size≤4096)=true:=decide_eq_true (by omega)
  go_wp2_with (fail)
  refine HU.out.mono ?_
  rintro r w2 ⟨rfl,hb⟩
  go_wp2
  all_goals
   go_ret
   exact ⟨ay (by unfold Bd;rw [hd];simp_all),hb⟩
 ·have hd:decide (s.size≤4096)=false:=decide_eq_false (by omega)
  clear HU
  go_wp2
  go_ret
  exact ⟨ay (by unfold Bd;rw [hd];simp),Below.refl _ _⟩
end Go.Proofs.YtmldhjoolebjoaaGreatDoor.Va
namespace Go.Proofs.YtmldhjoolebjoaaGreatDoor.Va
open Go Go.RowKit Nu Uc
attribute [-go_sem] Go.Instr.loadAt Go.Instr.storeAt
theorem fO {w:World} {a:Addr} {v:Value} (h:w.cell? a=some v):(Instr.loadAt 9 (.pointer (some a))).run Tryz.prog w= .ok v w:=by
 have:=Tryz.underlying9
 have:=Tryz.sizeOf9
 have:Go.Instr.loadAt=Go.Instr.loadAt:=rfl
 unfold Go.Instr.loadAt
 go_simp
theorem gm {w:World} {b:Nat} {c x:ByteArray} {i:VT} {il:Value} (h:Cells w b 0 (.string c:: .string x::i.cells il)):Cells w b 2 (i.cells il):=fun j u hu=>by
 have:=h (j+2) u (by simpa using hu)
 rwa [show 0+(j+2)=2+j by omega] at this
theorem QB {N B:Nat} (t:VT) (lv:Value) (w:World) (hT:qL w) (hf:t.bD) (hl:bR B w N lv t.list) (hB:B≤w.heap.size) (hn:nodes t≤900000000):
 Calls Tryz.prog 55 #[t.agg lv] w fun r w'=>r= .returned (.int .i64 (sV t))∧Below w.heap.size w w':=by
 obtain ⟨p,c,rfl⟩:=hl.slice
 obtain ⟨W1,hW1⟩:∃ W1,w.alloc (.cells #[.int .i64 t.kind,.int .u64 t.num,.string t.text,.slice p t.list.length c,.int .i64 t.elem] 25)=W1:=⟨_,rfl⟩
 obtain ⟨x1,hz1,hb1⟩:=aH (cs:=t.cells (.slice p t.list.length c)) hW1
 have HB1:=ajd hb1
 have HC:=ajd (Hq (N:=N) t (.slice p t.list.length c) W1 (hT.below hb1) hf ((hl.below (hb1.mono hB)).up (by omega)) hn)
 have l1:=aG (x1.cell (j:=0) rfl)
 have l2:=ag x1.1
 have hzz:w.heap.size≤W1.heap.size:=by omega
 clear hT hl hb1 hf hn x1
 go_enter Tryz.func55,Tryz.ntmps55
 by_cases h0:t.kind=0
 ·have HI:sV t=aB t 1:=if_neg (by omega)
  have b0:(t.kind !=0)=false:=by simp [h0]
  rw [HI]
  clear h0 HI
  go_wp2_with (fail)
  refine HC.out.mono ?_
  rintro r w2 ⟨rfl,hk⟩
  have HB:=ajd (HB1.out.trans (hk.below.mono hzz))
  clear hk
  go_wp2
  go_ret
  exact ⟨rfl,HB.out⟩
 ·by_cases h2:t.kind=22
  ·have HI:sV t=aB t 1:=if_neg (by omega)
   have b0:(t.kind !=0)=true:=bne_iff_ne.2 h0
   have b2:(t.kind !=22)=false:=by simp [h2]
   rw [HI]
   clear h0 h2 HI
   go_wp2_with (fail)
   refine HC.out.mono ?_
   rintro r w2 ⟨rfl,hk⟩
   have HB:=ajd (HB1.out.trans (hk.below.mono hzz))
   clear hk
   go_wp2
   go_ret
   exact ⟨rfl,HB.out⟩
  ·have HI:sV t=80:=if_pos ⟨h0,h2⟩
   have b0:(t.kind !=0)=true:=bne_iff_ne.2 h0
   have b2:(t.kind !=22)=true:=bne_iff_ne.2 h2
   rw [HI]
   clear HC h0 h2 HI
   go_wp2
   go_ret
   exact ⟨rfl,HB1.out⟩
def aQ (k:Int) (s:ByteArray):VT:=if s.size=0 then ah else .mk k 0 s 0 []
theorem Nv (k:Int) (s:ByteArray) (w:World):
 Calls Tryz.prog 24 #[.int .i64 k,.string s] w fun r w'=>r= .returned ((aQ k s).agg (.slice none 0 0))∧Below w.heap.size w w':=by
 obtain ⟨W1,hW1⟩:∃ W1,w.alloc (.cells #[.int .i64 0,.int .u64 0,.string ⟨#[]⟩,.slice none 0 0,.int .i64 0] 25)=W1:=⟨_,rfl⟩
 obtain ⟨x1,hz1,hb1⟩:=aH (cs:=ah.cells (.slice none 0 0)) hW1
 by_cases h0:0<s.size
 ·have he2:s.toList.isEmpty=false:=by rw [uU,decide_eq_true h0];rfl
  obtain ⟨Wb,hst,xb,hbb,hzb⟩:=fo x1 rfl (.mk k 0 s 0 []) none 0 0
  replace hst:(Instr.storeAt 25 (.pointer (some ⟨w.heap.size,0,none⟩)) (.agg #[.int .i64 k,.int .u64 0,.string s,.slice none 0 0,.int .i64 0])).run Tryz.prog W1= .ok () Wb:=hst
  have HR:aQ k s= .mk k 0 s 0 []:=if_neg (by omega)
  have iJ:=ajd (bB xb.1)
  have HB:=ajd (hb1.trans hbb)
  rw [HR]
  clear HR xb hbb x1 hb1
  go_enter Tryz.func24,Tryz.ntmps24
  go_wp2
  exact bodyPost_ret_by (dR rfl rfl iJ.out) rfl ⟨rfl,HB.out⟩
 ·have he2:s.toList.isEmpty=true:=by rw [uU,decide_eq_false h0];rfl
  obtain ⟨Wb,hst,xb,hbb,hzb⟩:=fo x1 rfl ah none 0 0
  replace hst:(Instr.storeAt 25 (.pointer (some ⟨w.heap.size,0,none⟩)) (.agg #[.int .i64 0,.int .u64 0,.string ⟨#[]⟩,.slice none 0 0,.int .i64 0])).run Tryz.prog W1= .ok () Wb:=hst
  have HR:aQ k s=ah:=if_pos (by omega)
  have iJ:=ajd (bB xb.1)
  have HB:=ajd (hb1.trans hbb)
  rw [HR]
  clear HR xb hbb x1 hb1
  go_enter Tryz.func24,Tryz.ntmps24
  go_wp2
  exact bodyPost_ret_by (dR rfl rfl iJ.out) rfl ⟨rfl,HB.out⟩
theorem QC {N B:Nat} (c x:ByteArray) (i:VT) (il:Value) (w:World) (hT:qL w) (hc:c.size≤9223372036854775807) (hx:x.size≤9223372036854775807) (hf:i.bD) (hl:bR B w N il i.list) (hB:B≤w.heap.size) (hn:nodes i≤900000000):
 Calls Tryz.prog 22 #[.agg #[.string c,.string x,.int .i64 i.kind,.int .u64 i.num,.string i.text,il,.int .i64 i.elem]] w fun r w'=>r= .returned (.int .i64 (sW c x i))∧Below w.heap.size w w':=by
 obtain ⟨W1,hW1⟩:∃ W1,w.alloc (.cells #[.string c,.string x,.int .i64 i.kind,.int .u64 i.num,.string i.text,il,.int .i64 i.elem] 27)=W1:=⟨_,rfl⟩
 obtain ⟨x1,hz1,hb1⟩:=aH (cs:= .string c:: .string x::i.cells il) hW1
 have HX:=ajd x1
 have HB1:=ajd hb1
 have HT:=ajd (hT.below hb1)
 have HF:=ajd hf
 have HL:=ajd (hl.below (hb1.mono hB))
 have HN:=ajd hn
 have l0:=fO (x1.cell (j:=0) rfl)
 have l1:=fO (x1.cell (j:=1) rfl)
 have HC:=ajd (Qz c W1 hc)
 have HS:=ajd (QA x W1 (hT.below hb1) hx)
 obtain ⟨a,ha⟩:∃ a,lV c=a:=⟨_,rfl⟩
 obtain ⟨b,hb⟩:∃ b,Bd x=b:=⟨_,rfl⟩
 have Nr:Hid (sW c x i=if a=true∧b=true then sV i else 80):=by show _=_;rw [←ha,←hb];rfl
 rw [ha] at HC
 rw [hb] at HS
 clear hT hl hb1 hf hn x1 ha hb
 go_enter Tryz.func22,Tryz.ntmps22
 go_wp2_with (fail)
 refine HC.out.mono ?_
 rintro r w2 ⟨rfl,rfl⟩
 clear hW1 l0 HC
 cases a with
 |false=>
  clear HS l1
  go_wp2
  go_ret
  exact ⟨dA (by rw [Nr.out];rfl),HB1.out⟩
 |true=>
 go_wp2_with (fail)
 refine HS.out.mono ?_
 rintro r w3 ⟨rfl,hb3⟩
 have HB3:=ajd (HB1.out.trans (hb3.mono (by omega)))
 have B3:=ajd hb3
 clear l1 hb3 HS
 cases b with
 |false=>
  go_wp2
  go_ret
  exact ⟨dA (by rw [Nr.out];rfl),HB3.out⟩
 |true=>
 have l2:=ag (gm (HX.out.below B3.out (by omega)).1)
 have HM:=ajd (QB (N:=N) (B:=B) i il w3 (HT.out.below B3.out) HF.out (HL.out.below (B3.out.mono (by omega))) (by have:=B3.out.size;omega) HN.out)
 go_wp2_with (fail)
 clear l2
 refine HM.out.mono ?_
 rintro r w4 ⟨rfl,hb4⟩
 have MO:=ajd (HB3.out.trans (hb4.mono (by have:=B3.out.size;omega)))
 clear hb4 HM
 go_wp2
 go_ret
 exact ⟨dA (by rw [Nr.out];rfl),MO.out⟩
end Go.Proofs.YtmldhjoolebjoaaGreatDoor.Va
namespace Go.Proofs.YtmldhjoolebjoaaGreatDoor.Va
open Go Go.RowKit Nu Uc Fd Go.Proofs.YtmldhjoolebjoaaGreatDoor.Nm
attribute [-go_sem] Go.Instr.loadAt Go.Instr.storeAt
theorem Vk {N B:Nat} (k:Int) (l:List VT) (lv:Value) (w:World) (hE:Env w) (hl:bR B w N lv l) (hB:B≤w.heap.size) (hnd:(aj l+13)*2^3≤800000000):
 Calls Tryz.prog 23 #[.int .i64 k,lv] w fun r w'=>bG (eB k l (recC (ai 3) (aU 3) k l)) w r w':=by
 obtain ⟨p,c,rfl⟩:=hl.slice
 obtain ⟨W1,hW1⟩:∃ W1,w.alloc (.cells #[.int .i64 0,.int .u64 0,.string ⟨#[]⟩,.slice none 0 0,.int .i64 0] 25)=W1:=⟨_,rfl⟩
 obtain ⟨x1,hz1,hb1⟩:=aH (cs:=ah.cells (.slice none 0 0)) hW1
 have HC:=ajd (Nt (N:=N) (B:=B) k l _ W1 (hE.below hb1) (hl.below (hb1.mono hB)) (by omega) hnd)
 obtain ⟨A,hA⟩:∃ A,eB k l (recC (ai 3) (aU 3) k l)=A:=⟨_,rfl⟩
 rw [hA] at HC ⊢
 have HX:=ajd x1
 have HB1:=ajd hb1
 clear hA hl hb1 x1 hE hnd
 go_enter Tryz.func23,Tryz.ntmps23
 go_wp2_with (fail)
 clear hW1
 refine HC.out.mono ?_
 intro r w2 bQ
 have hb2:=bQ.1
 cases A with
 |ok y=>
  obtain ⟨Sc,us,rfl,ZE,hol,hbk,hap⟩:=bQ.2
  obtain ⟨q6,c6,rfl⟩:=hol.slice
  obtain ⟨X7,hs7,wN,kr,rY,hsame⟩:=bL (HX.out.below hb2 (by omega)) rfl y q6 y.list.length c6
  have iJ:=ajd wN
  have HQ:Hid (bG (.ok y) w (.returned (.tuple #[y.agg (.slice q6 y.list.length c6),.int .i64 0])) X7):=by
   show bG (.ok y) w _ X7
   refine ⟨(HB1.out.trans (hb2.mono (by omega))).trans kr,_,us,rfl,ZE,hol.heap (by omega) fun u hu b hb=>hsame b (by have:=hbk u hu b hb;omega),?_,hap⟩
   rw [rY]
   exact hbk.mono (by omega) (Nat.le_refl _)
  clear wN kr rY hsame hol hbk hap bQ hb2 HC
  go_wp2
  exact bodyPost_ret_by (az rfl rfl iJ.out rfl) rfl HQ.out
 |error e=>
  have hr:=bQ.2
  simp only at hr
  subst hr
  obtain ⟨X7,hs7,wN,kr,rY,hsame⟩:=bL (HX.out.below hb2 (by omega)) rfl ah none 0 0
  have iJ:=ajd wN
  have HQ:Hid (bG (.error e) w (.returned (.tuple #[ah.agg (.slice none 0 0),.int .i64 e])) X7):=⟨(HB1.out.trans (hb2.mono (by omega))).trans kr,rfl⟩
  clear wN kr rY hsame bQ hb2 HC
  go_wp2
  exact bodyPost_ret_by (az rfl rfl iJ.out rfl) rfl HQ.out
def bX (c x:ByteArray) (i:VT):List VT:=[.mk 20 0 c 0 [],aQ 19 x,i]
theorem Hu (x:ByteArray):(aQ 19 x).list=[]:=by unfold aQ;split<;>rfl
theorem Vl {x:ByteArray} (hx:x.size≤maxLen):(aQ 19 x).bD:=by
 unfold aQ
 split
 ·exact iq
 ·exact ⟨by show _≤(19:Int);omega,by show (19:Int)≤_;omega,by show (0:Int)≤0;omega,by show (0:Int)≤_;omega,by show _≤(0:Int);omega,by show (0:Int)≤_;omega,hx⟩
theorem uV (c x:ByteArray) (i:VT):aj (bX c x i)=nodes i+2:=by
 unfold bX
 rw [aj,aj,aj,aj,aX (.mk 20 0 c 0 []),aX (aQ 19 x),Hu]
 show aj []+1+(aj []+1+(nodes i+0))=_
 rw [aj];omega
theorem E5 {N B:Nat} {c x:ByteArray} {i:VT} {il:Value} {v:World} {T:TypeId} (hc:c.size≤maxLen) (hx:x.size≤maxLen) (hf:i.bD) (hl:bR B v N il i.list) (hB:B≤v.heap.size):
 bR (v.heap.size+1) (v.alloc (.cells #[.int .i64 20,.int .u64 0,.string c,.slice none 0 0,.int .i64 0,.int .i64 (aQ 19 x).kind,.int .u64 (aQ 19 x).num,.string (aQ 19 x).text,.slice none 0 0,.int .i64 (aQ 19 x).elem,.int .i64 i.kind,.int .u64 i.num,.string i.text,il,.int .i64 i.elem] T)) (N+1) (.slice (some ⟨v.heap.size,0,none⟩) 3 3) (bX c x i):=by
 have hc':∀ j u,(#[.int .i64 20,.int .u64 0,.string c,.slice none 0 0,.int .i64 0,.int .i64 (aQ 19 x).kind,.int .u64 (aQ 19 x).num,.string (aQ 19 x).text,.slice none 0 0,.int .i64 (aQ 19 x).elem,.int .i64 i.kind,.int .u64 i.num,.string i.text,il,.int .i64 i.elem]:Array Value)[j]? =some u→(v.alloc (.cells #[.int .i64 20,.int .u64 0,.string c,.slice none 0 0,.int .i64 0,.int .i64 (aQ 19 x).kind,.int .u64 (aQ 19 x).num,.string (aQ 19 x).text,.slice none 0 0,.int .i64 (aQ 19 x).elem,.int .i64 i.kind,.int .u64 i.num,.string i.text,il,.int .i64 i.elem] T)).cell? ⟨v.heap.size,j,none⟩=some u:=fun j u hu=>by
  rw [World.cell?_alloc_new];exact hu
 have hb:Below v.heap.size v (v.alloc (.cells #[.int .i64 20,.int .u64 0,.string c,.slice none 0 0,.int .i64 0,.int .i64 (aQ 19 x).kind,.int .u64 (aQ 19 x).num,.string (aQ 19 x).text,.slice none 0 0,.int .i64 (aQ 19 x).elem,.int .i64 i.kind,.int .u64 i.num,.string i.text,il,.int .i64 i.elem] T)):=(Below.refl _ _).alloc (Nat.le_refl _) _
 have hn:∃ N',N=N'+1:=by
  cases N with
  |zero=>exact hl.elim
  |succ n=>exact ⟨n,rfl⟩
 obtain ⟨N',rfl⟩:=hn
 refine .inr ⟨v.heap.size,0,3,rfl,by omega,(by show 3≤maxLen;decide),fun j t ht=>?_⟩
 match j,ht with
 |0,ht=>
  cases ht
  exact ⟨⟨by show _≤(20:Int);omega,by show (20:Int)≤_;omega,by show (0:Int)≤0;omega,by show (0:Int)≤_;omega,by show _≤(0:Int);omega,by show (0:Int)≤_;omega,hc⟩,.slice none 0 0,⟨hc' 0 _ rfl,hc' 1 _ rfl,hc' 2 _ rfl,hc' 3 _ rfl,hc' 4 _ rfl⟩,.inl ⟨rfl,none,0,rfl⟩⟩
 |1,ht=>
  cases ht
  exact ⟨Vl hx,.slice none 0 0,⟨hc' 5 _ rfl,hc' 6 _ rfl,hc' 7 _ rfl,hc' 8 _ rfl,hc' 9 _ rfl⟩,.inl ⟨Hu x,none,0,rfl⟩⟩
 |2,ht=>
  cases ht
  exact ⟨hf,il,⟨hc' 10 _ rfl,hc' 11 _ rfl,hc' 12 _ rfl,hc' 13 _ rfl,hc' 14 _ rfl⟩,(hl.below (hb.mono hB)).up (by omega)⟩
 |j+3,ht=>simp [bX] at ht
theorem cK {w:World} {b:Nat} {c x:ByteArray} {i:VT} {il:Value} (h:Cells w b 0 (.string c:: .string x::i.cells il)):(Instr.loadAt 27 (.pointer (some ⟨b,0,none⟩))).run Tryz.prog w= .ok (.agg #[.string c,.string x,.int .i64 i.kind,.int .u64 i.num,.string i.text,il,.int .i64 i.elem]) w:=
 Go.run_loadAt_mid w b 0 27 (.string c:: .string x::i.cells il) _ h Tryz.underlying27 rfl (by kernel_rfl)
def eZ (c x:ByteArray) (i:VT):Except Int VT:=if sW c x i=0 then eB 29 (bX c x i) (recC (ai 3) (aU 3) 29 (bX c x i)) else .error (sW c x i)
theorem FY {N B:Nat} (c x:ByteArray) (i:VT) (il:Value) (w:World) (hE:Env w) (hc:c.size≤maxLen) (hx:x.size≤maxLen) (hf:i.bD) (hl:bR B w N il i.list) (hB:B≤w.heap.size) (hnd:nodes i≤90000000):
 Calls Tryz.prog 9 #[.agg #[.string c,.string x,.int .i64 i.kind,.int .u64 i.num,.string i.text,il,.int .i64 i.elem]] w fun r w'=>bG (eZ c x i) w r w':=by
 obtain ⟨p,d,rfl⟩:=hl.slice
 obtain ⟨n,hn⟩:∃ n,i.list.length=n:=⟨_,rfl⟩
 rw [hn] at hl ⊢
 obtain ⟨W1,hW1⟩:∃ W1,(w.alloc (.cells #[.string c,.string x,.int .i64 i.kind,.int .u64 i.num,.string i.text,.slice p n d,.int .i64 i.elem] 27)).alloc (.cells #[.int .i64 0,.int .u64 0,.string ⟨#[]⟩,.slice none 0 0,.int .i64 0] 25)=W1:=⟨_,rfl⟩
 obtain ⟨x1,x2,hz1,hb1⟩:=bK (cs:= .string c:: .string x::i.cells (.slice p n d)) (ds:=ah.cells (.slice none 0 0)) hW1
 have l0:=cK x1.1
 have HC:=ajd (QC (N:=N) (B:=B) c x i (.slice p n d) W1 (hE.below hb1).2 hc hx hf (hl.below (hb1.mono hB)) (by omega) (by omega))
 have X1:=ajd x1
 have X2:=ajd x2
 have HB1:=ajd hb1
 have AJ:=ajd (hE.below hb1)
 have MP:Hid (bR B W1 N (.slice p n d) i.list):=hl.below (hb1.mono hB)
 have HF:=ajd hf
 have VQ:Hid (c.size≤maxLen∧x.size≤maxLen):=⟨hc,hx⟩
 have o7:=ajd hnd
 obtain ⟨C,hC⟩:∃ C,sW c x i=C:=⟨_,rfl⟩
 have HA:Hid (eZ c x i=if C=0 then eB 29 (bX c x i) (recC (ai 3) (aU 3) 29 (bX c x i)) else .error C):=by show _=_;rw [←hC];rfl
 rw [hC] at HC
 clear hl x1 x2 hb1 hE hnd hC hf hc hx hn
 go_enter Tryz.func9,Tryz.ntmps9
 go_wp2_with (fail)
 clear hW1 l0
 refine HC.out.mono ?_
 rintro r w2 ⟨rfl,hb2⟩
 have z2:W1.heap.size≤w2.heap.size:=hb2.size
 have HB2:=ajd hb2
 by_cases hC0:C=0
 ·subst hC0
  have HA2:Hid (eZ c x i=eB 29 (bX c x i) (recC (ai 3) (aU 3) 29 (bX c x i))):=HA.out.trans (if_pos rfl)
  obtain ⟨A,hA⟩:∃ A,eB 29 (bX c x i) (recC (ai 3) (aU 3) 29 (bX c x i))=A:=⟨_,rfl⟩
  have HP:Hid (∀ v,Below w2.heap.size w2 v→Calls Tryz.prog 23 #[.int .i64 29,.slice (some ⟨v.heap.size,0,none⟩) 3 3] (v.alloc (.cells #[.int .i64 20,.int .u64 0,.string c,.slice none 0 0,.int .i64 0,.int .i64 (aQ 19 x).kind,.int .u64 (aQ 19 x).num,.string (aQ 19 x).text,.slice none 0 0,.int .i64 (aQ 19 x).elem,.int .i64 i.kind,.int .u64 i.num,.string i.text,.slice p n d,.int .i64 i.elem] 25)) fun r w'=>bG A (v.alloc (.cells #[.int .i64 20,.int .u64 0,.string c,.slice none 0 0,.int .i64 0,.int .i64 (aQ 19 x).kind,.int .u64 (aQ 19 x).num,.string (aQ 19 x).text,.slice none 0 0,.int .i64 (aQ 19 x).elem,.int .i64 i.kind,.int .u64 i.num,.string i.text,.slice p n d,.int .i64 i.elem] 25)) r w'):=fun v hv=>by
   have hv0:Below W1.heap.size W1 v:=HB2.out.trans (hv.mono z2)
   have zv:=hv.size
   have za:(v.alloc (.cells #[.int .i64 20,.int .u64 0,.string c,.slice none 0 0,.int .i64 0,.int .i64 (aQ 19 x).kind,.int .u64 (aQ 19 x).num,.string (aQ 19 x).text,.slice none 0 0,.int .i64 (aQ 19 x).elem,.int .i64 i.kind,.int .u64 i.num,.string i.text,.slice p n d,.int .i64 i.elem] 25)).heap.size=v.heap.size+1:=aO _ _
   have ba:Below v.heap.size v (v.alloc (.cells #[.int .i64 20,.int .u64 0,.string c,.slice none 0 0,.int .i64 0,.int .i64 (aQ 19 x).kind,.int .u64 (aQ 19 x).num,.string (aQ 19 x).text,.slice none 0 0,.int .i64 (aQ 19 x).elem,.int .i64 i.kind,.int .u64 i.num,.string i.text,.slice p n d,.int .i64 i.elem] 25)):=(Below.refl _ _).alloc (Nat.le_refl _) _
   have hL:=E5 (T:=25) (c:=c) (x:=x) (i:=i) VQ.out.1 VQ.out.2 HF.out (MP.out.below (hv0.mono (by omega))) (by omega)
   have:=Vk (N:=N+1) (B:=v.heap.size+1) 29 (bX c x i) (.slice (some ⟨v.heap.size,0,none⟩) 3 3) _ ((AJ.out.below hv0).below ba) hL (by omega) (by rw [uV];have:=o7.out;omega)
   rw [hA] at this
   exact this
  have EX:Hid (∀ v,Below w2.heap.size w2 v→eF v (w.heap.size+1) (ah.cells (.slice none 0 0))):=fun v hv=>(X2.out.below HB2.out (by omega)).below hv (by omega)
  have HS:Hid (∀ v,(∀ b,b=w.heap.size→v.heap[b]? =w2.heap[b]?)→((Instr.loadAt 9 (.pointer (some ⟨w.heap.size,0,none⟩))).run Tryz.prog v= .ok (.string c) v∧(Instr.loadAt 9 (.pointer (some ⟨w.heap.size,1,none⟩))).run Tryz.prog v= .ok (.string x) v∧(Instr.loadAt 25 (.pointer (some ⟨w.heap.size,2,none⟩))).run Tryz.prog v= .ok (.agg #[.int .i64 i.kind,.int .u64 i.num,.string i.text,.slice p n d,.int .i64 i.elem]) v)):=fun v hv=>by
   have hx:=(X1.out.below HB2.out (by omega)).heap (hv _ rfl)
   exact ⟨fO (hx.cell (j:=0) rfl),fO (hx.cell (j:=1) rfl),ag (gm hx.1)⟩
  have JO:Hid (∀ v,Below w2.heap.size w2 v→Below w2.heap.size w2 (v.alloc (.cells #[.int .i64 20,.int .u64 0,.string c,.slice none 0 0,.int .i64 0,.int .i64 (aQ 19 x).kind,.int .u64 (aQ 19 x).num,.string (aQ 19 x).text,.slice none 0 0,.int .i64 (aQ 19 x).elem,.int .i64 i.kind,.int .u64 i.num,.string i.text,.slice p n d,.int .i64 i.elem] 25))):=fun v hv=>hv.alloc hv.size _
  have FZ:Hid (∀ v,Below w2.heap.size w2 v→((Instr.loadAt 9 (.pointer (some ⟨w.heap.size,0,none⟩))).run Tryz.prog v= .ok (.string c) v∧(Instr.loadAt 9 (.pointer (some ⟨w.heap.size,1,none⟩))).run Tryz.prog v= .ok (.string x) v∧(Instr.loadAt 25 (.pointer (some ⟨w.heap.size,2,none⟩))).run Tryz.prog v= .ok (.agg #[.int .i64 i.kind,.int .u64 i.num,.string i.text,.slice p n d,.int .i64 i.elem]) v)):=fun v hv=>HS.out v fun b hb=>hv.block b (by omega)
  rw [hA] at HA2
  clear hA HC hb2 HA
  cases A with
  |ok y=>
   go_wp2
   go_region_held3 (fun v=>(Instr.loadAt 9 (.pointer (some ⟨w.heap.size,0,none⟩))).run Tryz.prog v= .ok (.string c) v∧(Instr.loadAt 9 (.pointer (some ⟨w.heap.size,1,none⟩))).run Tryz.prog v= .ok (.string x) v∧(Instr.loadAt 25 (.pointer (some ⟨w.heap.size,2,none⟩))).run Tryz.prog v= .ok (.agg #[.int .i64 i.kind,.int .u64 i.num,.string i.text,.slice p n d,.int .i64 i.elem]) v)
    (first
      |with_reducible exact Y0
      |with_reducible exact FZ.out _ hb6
      |with_reducible exact FZ.out _ (JO.out _ hb4)
      |with_reducible exact FZ.out _ hb4
      |with_reducible exact FZ.out _ (Below.refl _ _).drew)
    ((first
      |(go_at_call 23;refine (HP.out _ hb4).mono ?_;rintro r w6 ⟨lG,Sc,us,rfl,ZE,hol,hbk,hap⟩;obtain ⟨q6,c6,rfl⟩:=hol.slice;have hb6:Below w2.heap.size w2 w6:=(JO.out _ hb4).trans (lG.mono (JO.out _ hb4).size);obtain ⟨X7,hs7,wN,kr,rY,hsame⟩:=bL (EX.out _ hb6) rfl y q6 y.list.length c6;have Y0:=HS.out X7 (fun b hb=>(hsame b (by omega)).trans (hb6.block b (by omega))))
      |(go_at_call 24;refine (Nv 19 x _).mono ?_;rintro r w4 ⟨rfl,E8⟩;have hb4:Below w2.heap.size w2 w4:=(Below.refl _ _).drew.trans E8;clear E8)))
   have zb4:=hb4.size
   have Y6:Below w.heap.size w X7:=((HB1.out.trans (HB2.out.mono (by omega))).trans (hb6.mono (by omega))).trans (kr.mono (by omega))
   have za:(w4.alloc (.cells #[.int .i64 20,.int .u64 0,.string c,.slice none 0 0,.int .i64 0,.int .i64 (aQ 19 x).kind,.int .u64 (aQ 19 x).num,.string (aQ 19 x).text,.slice none 0 0,.int .i64 (aQ 19 x).elem,.int .i64 i.kind,.int .u64 i.num,.string i.text,.slice p n d,.int .i64 i.elem] 25)).heap.size=w4.heap.size+1:=aO _ _
   have HQ:Hid (bG (eZ c x i) w (.returned (.tuple #[y.agg (.slice q6 y.list.length c6),.int .i64 0])) X7):=by
    show bG (eZ c x i) w _ X7
    rw [HA2.out]
    refine ⟨Y6,_,us,rfl,ZE,hol.heap (by omega) fun u hu b hb=>hsame b (by have:=hbk u hu b hb;omega),?_,hap⟩
    rw [rY]
    exact hbk.mono (by omega) (Nat.le_refl _)
   have iJ:=ajd wN
   clear wN kr rY hsame hol hbk hap hb6 lG hb4 Y0 HP HS FZ JO EX Y6 za zb4
   go_wp2
   exact bodyPost_ret_by (az rfl rfl iJ.out rfl) rfl HQ.out
  |error e=>
   go_wp2
   go_region_held3 (fun v=>(Instr.loadAt 9 (.pointer (some ⟨w.heap.size,0,none⟩))).run Tryz.prog v= .ok (.string c) v∧(Instr.loadAt 9 (.pointer (some ⟨w.heap.size,1,none⟩))).run Tryz.prog v= .ok (.string x) v∧(Instr.loadAt 25 (.pointer (some ⟨w.heap.size,2,none⟩))).run Tryz.prog v= .ok (.agg #[.int .i64 i.kind,.int .u64 i.num,.string i.text,.slice p n d,.int .i64 i.elem]) v)
    (first
      |with_reducible exact Y0
      |with_reducible exact FZ.out _ hb6
      |with_reducible exact FZ.out _ (JO.out _ hb4)
      |with_reducible exact FZ.out _ hb4
      |with_reducible exact FZ.out _ (Below.refl _ _).drew)
    ((first
      |(go_at_call 23;refine (HP.out _ hb4).mono ?_;rintro r w6 ⟨lG,hr⟩;simp only at hr;subst hr;have hb6:Below w2.heap.size w2 w6:=(JO.out _ hb4).trans (lG.mono (JO.out _ hb4).size);obtain ⟨X7,hs7,wN,kr,rY,hsame⟩:=bL (EX.out _ hb6) rfl ah none 0 0;have Y0:=HS.out X7 (fun b hb=>(hsame b (by omega)).trans (hb6.block b (by omega))))
      |(go_at_call 24;refine (Nv 19 x _).mono ?_;rintro r w4 ⟨rfl,E8⟩;have hb4:Below w2.heap.size w2 w4:=(Below.refl _ _).drew.trans E8;clear E8)))
   have Y6:Below w.heap.size w X7:=((HB1.out.trans (HB2.out.mono (by omega))).trans (hb6.mono (by omega))).trans (kr.mono (by omega))
   have HQ:Hid (bG (eZ c x i) w (.returned (.tuple #[ah.agg (.slice none 0 0),.int .i64 e])) X7):=by
    show bG (eZ c x i) w _ X7
    rw [HA2.out]
    exact ⟨Y6,rfl⟩
   have iJ:=ajd wN
   clear wN kr rY hsame hb6 lG hb4 Y0 HP HS FZ JO EX Y6
   go_wp2
   exact bodyPost_ret_by (az rfl rfl iJ.out rfl) rfl HQ.out
 ·have hcb:(C !=0)=true:=by simp [hC0]
  obtain ⟨X6,hs6,NM,hb6,xG,_⟩:=bL (X2.out.below hb2 (by omega)) rfl ah none 0 0
  replace hs6:(Instr.storeAt 25 (.pointer (some ⟨w.heap.size+1,0,none⟩)) (.agg #[.int .i64 0,.int .u64 0,.string ⟨#[]⟩,.slice none 0 0,.int .i64 0])).run Tryz.prog w2= .ok () X6:=hs6
  have iJ:=ajd NM
  have HQ:Hid (bG (eZ c x i) w (.returned (.tuple #[ah.agg (.slice none 0 0),.int .i64 C])) X6):=by
   show bG (eZ c x i) w _ X6
   rw [HA.out,if_neg hC0]
   exact ⟨(HB1.out.trans (HB2.out.mono (by omega))).trans (hb6.mono (by omega)),rfl⟩
  clear NM hb6 xG hC0 hb2 HC HA
  go_wp2
  exact bodyPost_ret_by (az rfl rfl iJ.out rfl) rfl HQ.out
end Go.Proofs.YtmldhjoolebjoaaGreatDoor.Va
namespace Go.Proofs.YtmldhjoolebjoaaGreatDoor.Va
open Go Go.RowKit Nu
attribute [-go_sem] Go.Instr.loadAt Go.Instr.storeAt
def ab6 (N:Nat):Prop:=∀ (B:Nat) (l:List VT) (lv:Value) (w:World),bR B w N lv l→B≤w.heap.size→aj l≤900000000→
    Calls Tryz.prog 61 #[lv] w fun r w'=>∃ gM M,r= .returned gM∧bu (fun b=>w.heap.size≤b) w' M gM l∧Below w.heap.size w w'
theorem QD {N:Nat} (hS:ab6 N) {B:Nat} {t:VT} {lv:Value} {w:World} (hl:bR B w N lv t.list) (hB:B≤w.heap.size) (hn:nodes t≤900000000):
 Calls Tryz.prog 83 #[t.agg lv] w fun r w'=>∃ gM M,r= .returned (t.agg gM)∧bu (fun b=>w.heap.size≤b) w' M gM t.list∧Below w.heap.size w w':=by
 obtain ⟨p,c,rfl⟩:=hl.slice
 obtain ⟨W1,hW1⟩:∃ W1,(w.alloc (.cells #[.int .i64 t.kind,.int .u64 t.num,.string t.text,.slice p t.list.length c,.int .i64 t.elem] 25)).alloc (.cells #[.int .i64 0,.int .u64 0,.string ⟨#[]⟩,.slice none 0 0,.int .i64 0] 25)=W1:=⟨_,rfl⟩
 obtain ⟨x1,x2,hz1,hb1⟩:=bK (cs:=t.cells (.slice p t.list.length c)) (ds:=ah.cells (.slice none 0 0)) hW1
 have l0:=aF (x1.cell (j:=3) rfl)
 have HC:=ajd (hS B t.list (.slice p t.list.length c) W1 (hl.below (hb1.mono hB)) (by omega) (by have:=aX t;omega))
 have X1:=ajd x1
 have X2:=ajd x2
 have HB1:=ajd hb1
 clear hl x1 x2 hb1 hn
 go_enter Tryz.func83,Tryz.ntmps83
 go_wp2_with (fail)
 clear hW1 l0
 refine HC.out.mono ?_
 rintro r w2 ⟨gM,M,rfl,hL,hb2⟩
 obtain ⟨q,d,rfl⟩:=hL.slice
 have xI:=X1.out.below hb2 (by omega)
 have Au:=X2.out.below hb2 (by omega)
 have HB2:Below w.heap.size w w2:=HB1.out.trans (hb2.mono (by omega))
 have hst:=kK (a:=q) (n:=t.list.length) (c:=d) (xI.part (o:=3) (n:=1) (by show 3+1≤5;omega))
 obtain ⟨W3,hW3⟩:∃ W3,w2.setCells w.heap.size 3 [.slice q t.list.length d]=W3:=⟨_,rfl⟩
 have y1:eF W3 w.heap.size (t.cells (.slice q t.list.length d)):=by
  rw [←hW3]
  refine xI.set (o:=3) (by show 3+1≤5;omega) rfl (fun j u hu=>?_) (fun j hj=>?_)
  ·match j,hu with
   |0,hu=>exact hu
  ·match j,hj with
   |0,_=>rfl
   |1,_=>rfl
   |2,_=>rfl
   |3,h=>simp at h
   |4,_=>rfl
   |j+5,_=>rfl
 have y2:eF W3 (w.heap.size+1) (ah.cells (.slice none 0 0)):=Au.heap (by rw [←hW3];exact aA (by omega) _ _)
 have yb:Below w.heap.size w W3:=by rw [←hW3];exact HB2.trans (au (Nat.le_refl _) _ _)
 have z3:W3.heap.size=w2.heap.size:=by rw [←hW3];exact aC _ _ _ _
 have L3:bu (fun b=>W1.heap.size≤b) W3 M (.slice q t.list.length d) t.list:=hL.heap (by omega) fun b hb _=>by rw [←hW3];exact aA (by omega) _ _
 rw [hW3] at hst
 have l5:=ag y1.1
 have kL:=aD (t:=t) (a:=q) (n:=t.list.length) (c:=d) (y2.part (o:=0) (n:=5) (Nat.le_refl _))
 have y3:=y2.all (vs:=t.cells (.slice q t.list.length d)) rfl
 have yb2:Below w.heap.size w (W3.setCells (w.heap.size+1) 0 (t.cells (.slice q t.list.length d))):=yb.trans (au (by omega) _ _)
 obtain ⟨X,hX⟩:∃ X,W3.setCells (w.heap.size+1) 0 (t.cells (.slice q t.list.length d))=X:=⟨_,rfl⟩
 have L4:bu (fun b=>w.heap.size≤b) X M (.slice q t.list.length d) t.list:=(L3.heap (w':=X) (by rw [←hX,aC];exact Nat.le_refl _) fun b hb _=>by rw [←hX];exact aA (by omega) _ _).weak fun b hb _=>by omega
 rw [hX] at kL y3 yb2
 have HF:Hid (bu (fun b=>w.heap.size≤b) X M (.slice q t.list.length d) t.list∧Below w.heap.size w X):=⟨L4,yb2⟩
 have iJ:=ajd (bB y3.1)
 clear hL hb2 xI Au HB2 y1 y2 y3 yb yb2 hX hW3 L3 L4 z3 HC
 go_wp2
 exact bodyPost_ret_by (dR rfl rfl iJ.out) rfl ⟨_,M,rfl,HF.out⟩
theorem QE:∀ N,ab6 N:=by
 intro N
 induction N with
 |zero=>intro B l lv w h;exact h.elim
 |succ N ih=>
  intro B l lv w hl hB hn
  have HS:=ajd ih
  have o7:=ajd hn
  have HL:=ajd hl
  obtain ⟨p,c,rfl⟩:=hl.slice
  have hlen:l.length≤900000000:=by have:=fZ l;omega
  obtain ⟨m,hm⟩:∃ m,l.length=m:=⟨_,rfl⟩
  have HM:=ajd hm
  rw [hm] at hlen HL ⊢
  clear hl ih hn hm
  obtain ⟨i0,hi0,hi1,hi2,hi3⟩:=info_parts uL
  go_enter Tryz.func61,Tryz.ntmps61
  go_wp2
  go_loopw [3,4] (fun sv iv wr=>∃ (i:Nat) (items:List (VT×Value)),iv= .int .i64 i∧i≤m∧Hid (items.map (·.1)=l.take i)∧Hid (mG w.heap.size 25 (fun b=>w.heap.size≤b) w items sv wr)) (fun _ iv _=>m-(intOf iv).toNat)
  case atStart=>exact ⟨0,[],rfl,Nat.zero_le _,(by show []=_;simp),mG.start w⟩
  case round=>
   obtain ⟨i,items,rfl,hi,HT,gK⟩:=hrel
   have rW:items.length=i:=by
    have:=congrArg List.length HT.out
    simp only [List.length_map,List.length_take] at this
    have h1:=HM.out
    omega
   by_cases hlt:i<m
   ·obtain ⟨x,hx⟩:∃ x,l[i]? =some x:=⟨_,List.getElem?_eq_getElem (by rw [HM.out];exact hlt)⟩
    rcases HL.out with ⟨h0,_⟩|⟨b,off,c',hp,jy,_,hel⟩
    ·rw [h0] at hx;simp at hx
    rw [HM.out] at hp
    simp only [Value.slice.injEq] at hp
    obtain ⟨rfl, -,rfl⟩:=hp
    obtain ⟨xf,xlv,hat,hxl⟩:=hel i x hx
    have hbw:Below B w wr:=gK.out.below.mono hB
    have le:=ag (dW (hat.heap (gK.out.below.block b (by omega))))
    have hnx:nodes x≤900000000:=by
     have h1:=pV hx
     have:=o7.out
     omega
    have TG:=gK.out.Bw
    have VQ:=ajd (QD (t:=x) HS.out (hxl.below hbw) (by omega) hnx)
    have YG:=ajd xf
    have uP:=ajd rW
    have ZF:Hid (∀ y:VT×Value,y.1=x→(items++[y]).map (·.1)=l.take (i+1)):=fun y hy=>by
     rw [List.map_append,HT.out,List.take_add_one,hx]
     simp [hy]
    have ac8:(0:Int)≤(i:Int):=by omega
    have ac9:(i:Int)<(m:Int):=by omega
    clear hx hel hat hxl hbw xf hnx
    go_wp2_with (fail)
    clear le
    refine VQ.out.mono ?_
    rintro r w2 ⟨gM,M,rfl,hL,hb2⟩
    obtain ⟨q,d,rfl⟩:=hL.slice
    obtain ⟨Wa,hWa⟩:∃ Wa,w2.alloc (.cells #[.int .i64 0,.int .u64 0,.string ⟨#[]⟩,.slice none 0 0,.int .i64 0] 25)=Wa:=⟨_,rfl⟩
    obtain ⟨xa,hza,hba⟩:=aH (cs:=ah.cells (.slice none 0 0)) hWa
    obtain ⟨Wb,AL,xb,zy,hzb⟩:=fo xa rfl x q x.list.length d
    have hsz2:=hb2.size
    have hbb:Below w2.heap.size w2 Wb:=hba.trans (zy.mono (by omega))
    have oz:Hid (Below wr.heap.size wr Wb):=hb2.trans (hbb.mono hsz2)
    have ld:=ag xb.1
    have Qp:=ajd (gK.out.keep oz.out)
    have zc:Below Wb.heap.size Wb (Wb.alloc (.cells #[.int .i64 x.kind,.int .u64 x.num,.string x.text,.slice q x.list.length d,.int .i64 x.elem] 25)):=(Below.refl _ _).alloc (Nat.le_refl _) _
    have zl:=ajd (Qp.out.keep zc)
    obtain ⟨sp,sc,rfl⟩:=gK.out.form
    rw [rW] at gK Qp zl ⊢
    have hrow:=zl.out.row
    rw [rW] at hrow
    have zm:=zl.out.Bw
    have HYA:Hid (bu (fun b=>(fun b=>w.heap.size≤b) b∧(Value.slice sp i sc).ownBlock≠some b) (Wb.alloc (.cells #[.int .i64 x.kind,.int .u64 x.num,.string x.text,.slice q x.list.length d,.int .i64 x.elem] 25)) M (.slice q x.list.length d) x.list):=
     (((hL.below hbb).below zc).weak fun b hb _=>⟨by show w.heap.size≤b;omega,fun e=>by have:=(gK.out.iL e).2;omega⟩)
    have hmx:i+1≤maxLen:=by unfold maxLen;omega
    have hmb:(i+1)*64≤140737488355328:=by omega
    clear hL hb2 hba hbb zy xa xb zc hza hzb hsz2 VQ rW
    go_wp2_with (at_builtin;go_must (refine wpList_append_own_at _ rfl _ _ 23 rfl w.heap.size 25 i0 _ 5 64 Tryz.underlying23 hi0 hi1 hi2 hi3 rfl (by decide) (.slice sp i sc) i (bE items) rfl hrow ⟨Wb.heap.size,0,none⟩ 1 1 (x.cells (.slice q x.list.length d)) rfl rfl (pg Wb _ _ _) (pq _ _ _ _) hmx hmb zm ?_;intro v' w6 hown6 gJ qH qI))
    rw [←uP.out] at hown6
    have YI:Hid (mG w.heap.size 25 (fun b=>w.heap.size≤b) w (items++[(x,.slice q x.list.length d)]) v' w6):=zl.out.push (x:=(x,.slice q x.list.length d)) YG.out HYA.out hown6 gJ qI
    have YJ:=ZF.out (x,.slice q x.list.length d) rfl
    clear hown6 gJ qH qI hrow zm
    go_roundw
    case rel=>exact ⟨i+1,_,by go_num,by omega,YJ,YI.out⟩
    case measure=>simp [intOf];omega
   ·obtain rfl:i=m:=by omega
    obtain ⟨M,hM⟩:=gK.out.vX (fun b hb=>hb) (by unfold maxLen;omega)
    rw [HT.out,List.take_of_length_le (Nat.le_of_eq HM.out)] at hM
    have HF:=ajd hM
    have HB:=ajd gK.out.below
    clear hM
    go_wp2
    go_ret
    exact ⟨_,M,rfl,HF.out,HB.out⟩
end Go.Proofs.YtmldhjoolebjoaaGreatDoor.Va
namespace Go.Proofs.YtmldhjoolebjoaaGreatDoor.Va
open Go Go.RowKit Nu Uc Fd Go.Proofs.YtmldhjoolebjoaaGreatDoor.Nm
attribute [-go_sem] Go.Instr.loadAt Go.Instr.storeAt
end Go.Proofs.YtmldhjoolebjoaaGreatDoor.Va
namespace Go.Proofs.YtmldhjoolebjoaaGreatDoor.Va
open Go Go.RowKit Nu Go.Proofs.YtmldhjoolebjoaaGreatDoor.Nm
theorem Y7 (B:Nat) (w:World) (N:Nat) (k m:Int) (s:ByteArray) (h0:0≤m) (h1:m≤18446744073709551615) (hk0:0≤k) (hk1:k≤100) (hs:s.size≤9223372036854775807):
 Zu B w (N+1) (.agg #[.int .i64 k,.int .u64 m,.string s,.slice none 0 0,.int .i64 0]) (.mk k m s 0 []):=
 ⟨⟨by show _≤k;omega,by show k≤_;omega,h0,h1,by show _≤(0:Int);omega,by show (0:Int)≤_;omega,hs⟩,_,rfl,.inl ⟨rfl,_,_,rfl⟩⟩
theorem Vm {d:VT} {q:Int} {X Y:Bool} (hn:fe q≠[]) (hx:mM d (.mk 5 q fE 0 [])=X) (hy:mM d (.mk 20 0 (fC q) 0 [])=Y):vT d q=(X||Y):=by
 unfold vT
 rw [hx,hy]
 have:fe q≠[]:=hn
 cases hh:fe q with
 |nil=>exact absurd hh hn
 |cons a l=>rfl
theorem ado {d:VT} {q:Int} (hn:fe q=[]):vT d q=false:=by
 unfold vT;rw [hn];rfl
theorem Nw {d:VT} {q:Int} (h:∀ i,1≤i→i<q→vT d i=false) (hq:vT d q=false):∀ i,1≤i→i<q+1→vT d i=false:=fun i h1 h2=>by
 by_cases hi:i=q
 ·rw [hi];exact hq
 ·exact h i h1 (by omega)
theorem Vn (q:Int):(fC q).size≤9223372036854775807:=by
 have:(fe q).length≤100:=by
  unfold fe
  split
  ·rename_i s hs
   obtain ⟨r,hr,hx⟩:=List.exists_of_findSome?_eq_some hs
   have h1:=Wd hx
   obtain ⟨s',hs',hg⟩:=Kk h1.1 h1.2
   rw [hx] at hs'
   cases hs'
   have:=Kl r hr s (List.mem_of_getElem? hg)
   have hf:(form q).length≤6:=by unfold form;(repeat' split)<;>decide
   simp [ZP];omega
  ·simp
 have h2:(fC q).size=(fe q).length:=by rw [Lib.size_eq];rfl
 omega
theorem Vo {N B:Nat} {k m:Int} {s:ByteArray} {e:Int} {l:List VT} {lv:Value} {w:World} (hl:bR B w N lv l) (hf:(VT.mk k m s e l).bD) (hB:B≤w.heap.size):
 Calls Tryz.prog 151 #[.agg #[.int .i64 k,.int .u64 m,.string s,lv,.int .i64 e]] w fun r w'=>r= .returned (lN (kindOf (.mk k m s e l)))∧Below w.heap.size w w':=by
 obtain ⟨p,c,rfl⟩:=hl.slice
 have hlen:l.length≤9223372036854775807:=hl.len
 by_cases hd:k=24∧l.length=2
 ·obtain ⟨rfl,hl2⟩:=hd
  obtain ⟨d,x,rfl⟩:∃ d x,l=[d,x]:=by
   match l,hl2 with
   |[d,x],_=>exact ⟨d,x,rfl⟩
  cases N with
  |zero=>exact hl.elim
  |succ N=>
   rcases hl with ⟨h0,_⟩|⟨b,off,c',hp,jy,_,hel⟩
   ·cases h0
   cases hp
   obtain ⟨hfd,lv,hat,hld⟩:=hel 0 d rfl
   simp only [Nat.zero_mul,Nat.add_zero] at hat
   have bQ:kindOf (.mk 24 m s e [d,x])=sD d 1 199:=by simp [kindOf,VT.kind,VT.list,vZ]
   rw [bQ]
   have hb0:b<w.heap.size:=by omega
   clear hel bQ hf hlen hl2
   rw [show ([d,x]:List VT).length=2 from rfl]
   obtain ⟨K,hK⟩:∃ K,sD d 1 199=K:=⟨_,rfl⟩
   rw [hK]
   have HK:=ajd hK
   clear hK
   go_enter Tryz.func151,Tryz.ntmps151
   go_wp2
   obtain ⟨W1,hW1⟩:∃ W1,w.alloc (.cells #[.int .i64 24,.int .u64 m,.string s,.slice (some ⟨b,off,none⟩) 2 c,.int .i64 e] 25)=W1:=⟨_,rfl⟩
   have hz1:W1.heap.size=w.heap.size+1:=by rw [←hW1];simp
   have hc3:W1.cell? ⟨w.heap.size,3,none⟩=some (.slice (some ⟨b,off,none⟩) 2 c):=by rw [←hW1];simp
   have hb1:Below w.heap.size w W1:=by rw [←hW1];exact (Below.refl _ _).alloc (Nat.le_refl _) _
   rw [hW1]
   clear hW1
   have HF:Hid (∀ W,Below (w.heap.size+1) W1 W→(W.cell? ⟨w.heap.size,3,none⟩=some (.slice (some ⟨b,off,none⟩) 2 c)∧W.cell? ⟨b,off,none⟩=some (.int .i64 d.kind)∧W.cell? ⟨b,off+1,none⟩=some (.int .u64 d.num)∧W.cell? ⟨b,off+2,none⟩=some (.string d.text)∧W.cell? ⟨b,off+3,none⟩=some lv∧W.cell? ⟨b,off+4,none⟩=some (.int .i64 d.elem))∧Zu B W (N+1) (.agg #[.int .i64 d.kind,.int .u64 d.num,.string d.text,lv,.int .i64 d.elem]) d∧B≤W.heap.size):=fun W h=>by
    have hw:Below B w W:=(hb1.trans (h.mono (by omega))).mono hB
    obtain ⟨e0,e1,e2,e3,e4⟩:=hat.below hw jy
    exact ⟨⟨(h.cell (p:=⟨w.heap.size,3,none⟩) (by simp)).trans hc3,e0,e1,e2,e3,e4⟩,⟨hfd,lv,rfl,(hld.below hw).mono (by omega)⟩,by have:=h.size;omega⟩
   clear hat hld hc3
   go_loopw [4] (fun i wr=>∃ (q:Int),i= .int .i64 q∧1≤q∧q≤200∧Hid (∀ i,1≤i→i<q→vT d i=false)∧Below (w.heap.size+1) W1 wr) (fun i _=>(200-intOf i).toNat)
   case atStart=>exact ⟨1,rfl,by omega,by omega,fun i h1 h2=>by omega,Below.refl _ _⟩
   case round=>
    obtain ⟨q,rfl,hq0,hq1,HQ,hb⟩:=hrel
    have EF:Hid (Below w.heap.size w wr):=hb1.trans (hb.mono (by omega))
    have wI:w.heap.size+1≤wr.heap.size:=by have:=hb.size;omega
    have HB:=ajd hb
    clear hb
    by_cases hlt:q<200
    ·by_cases hne:fe q=[]
     ·have hn1:(fC q).toList=[]:=by rw [mO,hne]
      have HN:=ajd (ado (d:=d) hne)
      clear hne
      go_wp2_with (go_at_call 179;refine (BC q _).mono ?_;rintro r w2 ⟨rfl,hb2⟩)
      go_roundw
      case rel=>exact ⟨q+1,rfl,by omega,by omega,Nw HQ.out HN.out,HB.out.trans (hb2.mono (by omega))⟩
      case measure=>simp [intOf];omega
     ·have hn1:(!(fC q).toList.isEmpty)=true:=by rw [mO];simpa using hne
      obtain ⟨X,hX⟩:∃ X,mM d (.mk 5 q fE 0 [])=X:=⟨_,rfl⟩
      obtain ⟨Y,hY⟩:∃ Y,mM d (.mk 20 0 (fC q) 0 [])=Y:=⟨_,rfl⟩
      have HN:=ajd (Vm hne hX hY)
      have HX:=ajd hX
      have HY:=ajd hY
      have hsz:=Vn q
      clear hne hX hY
      go_wp2_with (go_at_call 179;refine (BC q _).mono ?_;rintro r w2 ⟨rfl,hb2⟩;obtain ⟨⟨d3,e0,e1,e2,e3,e4⟩,hv2,hB2⟩:=HF.out _ (HB.out.trans (hb2.mono wI));have hv2:=ajd hv2)
      refine (qG hv2.out (Y7 B _ N 5 q fE (by omega) (by omega) (by omega) (by omega) (by decide)) hB2).mono ?_
      rintro r w3 ⟨hr,hb3⟩
      rw [HX.out] at hr
      subst hr
      have HB3:=ajd (HB.out.trans ((hb2.trans (hb3.mono hb2.size)).mono wI))
      clear d3 e0 e1 e2 e3 e4 hv2
      obtain ⟨⟨d3,e0,e1,e2,e3,e4⟩,hv2,hB3⟩:=HF.out _ HB3.out
      have hv2:=ajd hv2
      go_wp2_with (fail)
      refine (qG hv2.out (Y7 B _ N 20 0 (fC q) (by omega) (by omega) (by omega) (by omega) hsz) hB3).mono ?_
      rintro r w4 ⟨hr,hb4⟩
      rw [HY.out] at hr
      subst hr
      have MO:=ajd (HB3.out.trans (hb4.mono (by have:=HB3.out.size;omega)))
      clear d3 e0 e1 e2 e3 e4 hv2
      cases X<;>cases Y
      ·go_wp2
       go_roundw
       case rel=>exact ⟨q+1,rfl,by omega,by omega,Nw HQ.out HN.out,MO.out⟩
       case measure=>simp [intOf];omega
      all_goals
       go_wp2
       go_ret2
       have Ya:sD d 1 199=some q:=qM (by omega) (by omega) HN.out HQ.out
       exact ⟨by rw [←HK.out,Ya];rfl,hb1.trans (MO.out.mono (by omega))⟩
    ·obtain rfl:q=200:=by omega
     go_wp2
     go_ret2
     have HN:sD d 1 199=none:=nE fun i h1 h2=>HQ.out i h1 (by omega)
     exact ⟨by rw [←HK.out,HN];rfl,EF.out⟩
 ·have bQ:kindOf (.mk k m s e l)=none:=if_neg hd
  rw [bQ]
  have HD:=ajd hd
  clear hd hl
  go_enter Tryz.func151,Tryz.ntmps151
  go_wp2
  all_goals first
   |(go_ret2;exact ⟨rfl,(Below.refl _ _).alloc (Nat.le_refl _) _⟩)
   |(exfalso;exact HD.out ⟨(by assumption:k=24),BD (by assumption)⟩)
theorem Hw {N B:Nat} {d:VT} {v:Value} {w:World} (h:Zu B w N v d) (hB:B≤w.heap.size):
 Calls Tryz.prog 151 #[v] w fun r w'=>r= .returned (lN (kindOf d))∧Below w.heap.size w w':=by
 obtain ⟨hf,lv,rfl,hl⟩:=h
 obtain ⟨k,m,s,e,l⟩:=d
 exact Vo hl hf hB
end Go.Proofs.YtmldhjoolebjoaaGreatDoor.Va
namespace Go.Proofs.YtmldhjoolebjoaaGreatDoor.Va
open Go Go.RowKit Nu Uc Fd Go.Proofs.YtmldhjoolebjoaaGreatDoor.Nm
theorem Vp {lo hi:Nat} {ks:List Int} {kv:Value} {w:World} (h:jq lo hi w kv ks) (k:Int) (hl:ks.length≤1000):
 Calls Tryz.prog 175 #[.int .i64 k,kv] w fun r w'=>r= .returned (.bool (ks.contains k))∧w'=w:=by
 have H:=ajd h
 obtain ⟨p,c,rfl,hu⟩:=h.view
 clear hu h
 obtain ⟨n,hn⟩:∃ n,ks.length=n:=⟨_,rfl⟩
 have Hn:=ajd hn
 rw [hn] at H hl ⊢
 clear hn
 obtain ⟨X,hX⟩:∃ X,ks.contains k=X:=⟨_,rfl⟩
 have HX0:=ajd hX
 rw [hX]
 clear hX
 go_enter Tryz.func175,Tryz.ntmps175
 go_wp2
 go_loopw [5] (fun i wr=>∃ j:Nat,i= .int .i64 j∧j≤n∧Hid (∀ (i:Nat) (x:Int),i<j→ks[i]? =some x→x≠k)∧wr=w) (fun i _=>n-(intOf i).toNat)
 case atStart=>exact ⟨0,rfl,Nat.zero_le _,fun i x h=>by omega,rfl⟩
 case round=>
  obtain ⟨j,rfl,hj,HQ,rfl⟩:=hrel
  by_cases hlt:j<n
  ·obtain ⟨x,hx⟩:∃ x,ks[j]? =some x:=⟨_,List.getElem?_eq_getElem (by rw [Hn.out];exact hlt)⟩
   obtain ⟨q,d,e,hv⟩:=H.out.view
   obtain ⟨b,off,rfl,_,hc⟩:=hv j x hx
   simp only [Value.slice.injEq] at e
   obtain ⟨rfl, -, -⟩:=e
   have HX:=ajd hx
   have hj0:(0:Int)≤(j:Int):=by omega
   have hj1:(j:Int)<(n:Int):=by omega
   clear hv hx
   by_cases he:x=k
   ·subst he
    have HE:Hid (X=true):=by
     show _=_
     rw [←HX0.out]
     have:x∈ks:=List.mem_of_getElem? HX.out
     simp [this]
    go_wp2
    go_ret
    exact ⟨pbool HE.out.symm,rfl⟩
   ·have hne:(x==k)=false:=by simp [he]
    have HN:Hid (∀ (i:Nat) (y:Int),i<j+1→ks[i]? =some y→y≠k):=fun i y hi hy=>by
     rcases Nat.lt_or_ge i j with h|h
     ·exact HQ.out i y h hy
     ·obtain rfl:i=j:=by omega
      rw [HX.out] at hy
      cases hy
      exact he
    clear he
    go_wp2
    go_roundw
    case rel=>exact ⟨j+1,by go_num,by omega,HN.out,trivial⟩
    case measure=>simp [intOf];omega
  ·obtain rfl:j=n:=by omega
   have HE:Hid (X=false):=by
    show _=_
    rw [←HX0.out]
    have:k∉ks:=fun h=>by
     obtain ⟨i,hi⟩:=List.getElem?_of_mem h
     exact HQ.out i k (by have:=(List.getElem?_eq_some_iff.1 hi).1;have:=Hn.out;omega) hi rfl
    simp [this]
   go_wp2
   go_ret
   exact ⟨pbool HE.out.symm,rfl⟩
attribute [-go_sem] Go.Instr.loadAt Go.Instr.storeAt
theorem Ny {lo hi N B:Nat} (f:FT) (kv:Value) (t:VT) (lv:Value) (w:World) (hE:Env w) (hk:jq lo hi w kv f.kinds) (hkl:f.kinds.length≤1000) (hf:t.bD) (hl:bR B w N lv t.list) (hB:B≤w.heap.size):
 Calls Tryz.prog 125 #[jJ f kv,t.agg lv] w fun r w'=>r= .returned (.bool (bF f t))∧Below w.heap.size w w':=by
 obtain ⟨p,c,rfl⟩:=hl.slice
 obtain ⟨W1,hW1⟩:∃ W1,(w.alloc (.cells #[.string ⟨f.name.toArray⟩,.int .i64 f.type,kv,.bool f.must,.int .i64 f.dk,.int .u64 f.dn,.string ⟨f.dt.toArray⟩,.slice none 0 0,.int .i64 0] 121)).alloc (.cells #[.int .i64 t.kind,.int .u64 t.num,.string t.text,.slice p t.list.length c,.int .i64 t.elem] 25)=W1:=⟨_,rfl⟩
 obtain ⟨x1,x2,hz1,hb1⟩:=bK (cs:=fA f kv) (ds:=t.cells (.slice p t.list.length c)) hW1
 obtain ⟨⟨ts,hsp⟩,_⟩:=hE.below hb1
 have l1:=aG (x1.cell (j:=1) rfl)
 have l2:=ag x2.1
 have l3:=aG (x2.cell (j:=0) rfl)
 have l4:=aG (x2.cell (j:=4) rfl)
 have U7:=ajd (Hw (N:=N) (B:=B) (d:=t) (v:=t.agg (.slice p t.list.length c)) (w:=W1) ⟨hf,_,rfl,hl.below (hb1.mono hB)⟩ (by omega))
 have X1:=ajd x1
 have HK1:=ajd (hk.below hb1)
 have HB1:=ajd hb1
 have HW:=ajd (EM f t)
 obtain ⟨R,hR⟩:∃ R,bF f t=R:=⟨_,rfl⟩
 rw [hR] at HW ⊢
 clear hR hl hk hE x1 x2 hb1 hsp hf
 show Calls Tryz.prog 125 #[.agg #[.string ⟨f.name.toArray⟩,.int .i64 f.type,kv,.bool f.must,.int .i64 f.dk,.int .u64 f.dn,.string ⟨f.dt.toArray⟩,.slice none 0 0,.int .i64 0],.agg #[.int .i64 t.kind,.int .u64 t.num,.string t.text,.slice p t.list.length c,.int .i64 t.elem]] w _
 by_cases h100:f.type=100
 ·have HE:Hid (R=true):=HW.out.trans (if_pos h100)
  rw [h100] at l1 hW1 ⊢
  go_enter Tryz.func125,Tryz.ntmps125
  go_wp2
  go_ret
  exact ⟨pbool HE.out.symm,HB1.out⟩
 by_cases h101:f.type=101
 ·have HE:Hid (R=(decide (t.kind=23)&&decide (t.elem=20))):=HW.out.trans (by rw [if_neg h100,if_pos h101])
  rw [h101] at l1 hW1 ⊢
  go_enter Tryz.func125,Tryz.ntmps125
  go_wp2
  all_goals
   go_ret
   exact ⟨pbool (by rw [HE.out];clear HE HW;first|(simp_all;done)|(by_cases h:t.elem=20<;>simp_all)),HB1.out⟩
 by_cases h102:f.type=102
 ·obtain ⟨o,ho⟩:∃ o,kindOf t=o:=⟨_,rfl⟩
  have HE:Hid (R=YC f o):=HW.out.trans (by rw [if_neg h100,if_neg h101,if_pos h102,ho])
  rw [ho] at U7
  rw [h102] at l1 hW1 ⊢
  clear ho
  go_enter Tryz.func125,Tryz.ntmps125
  go_wp2_with (fail)
  refine U7.out.mono ?_
  rintro r w2 ⟨rfl,hb2⟩
  have HB2:=ajd (HB1.out.trans (hb2.mono (by omega)))
  have Ya:=ajd (HK1.out.below hb2)
  have l5:=EN ((X1.out.below hb2 (by omega)).cell (j:=2) rfl)
  clear hb2 l1 l2 l3 l4
  obtain ⟨kn,hkn⟩:∃ kn,Km o=kn:=⟨_,rfl⟩
  obtain ⟨q,hq⟩:∃ q,o.isSome=q:=⟨_,rfl⟩
  have VJ:=ajd (Vp Ya.out kn hkl)
  obtain ⟨X,hX⟩:∃ X,f.kinds.contains kn=X:=⟨_,rfl⟩
  have HE2:Hid (R=(q&&X)):=by
   show _=_
   rw [HE.out,←hX,←hkn,←hq]
   cases o<;>rfl
  rw [hX] at VJ
  obtain ⟨kp,kc,rfl,hu⟩:=Ya.out.view
  unfold lN
  rw [hkn,hq]
  clear hu hX hkn hq HE
  cases q<;>
   (go_wp2_with (go_at_call 175;refine VJ.out.mono ?_;rintro r w3 ⟨rfl,rfl⟩)
    go_ret
    exact ⟨pbool HE2.out.symm,HB2.out⟩)
 ·have HE:Hid (R=decide (t.kind=f.type)):=HW.out.trans (by rw [if_neg h100,if_neg h101,if_neg h102])
  have l6:=aG (X1.out.cell (j:=1) rfl)
  go_enter Tryz.func125,Tryz.ntmps125
  go_wp2
  go_ret
  exact ⟨pbool (by rw [HE.out];by_cases h:t.kind=f.type<;>simp [h]),HB1.out⟩
end Go.Proofs.YtmldhjoolebjoaaGreatDoor.Va
namespace Go.Proofs.YtmldhjoolebjoaaGreatDoor.Va
open Go Go.RowKit Nu
theorem aik (m:Int) (h0:0≤m) (h1:m≤18446744073709551615):(-128≤wrap64 m∧wrap64 m<128)↔signed m 128=true:=by
 unfold signed wrap64
 simp only [Bool.or_eq_true,decide_eq_true_eq]
 omega
theorem Y8 (m:Int) (w:World) (h0:0≤m) (h1:m≤18446744073709551615):Calls Tryz.prog 190 #[.int .u64 m,.int .i64 8] w fun r w'=>r= .returned (.bool (signed m 128))∧w'=w:=by
 have HS:=ajd (aik m h0 h1)
 go_enter Tryz.func190,Tryz.ntmps190
 go_wp2
 all_goals
  go_ret
  refine ⟨ay ?_,rfl⟩
  rw [Bool.eq_iff_iff,←HS.out]
  first
   |(simp;omega)
   |(simp only [decide_eq_true_eq];omega)
theorem afE (m:Int) (h0:0≤m) (h1:m≤18446744073709551615):(-32768≤wrap64 m∧wrap64 m<32768)↔signed m 32768=true:=by
 unfold signed wrap64
 simp only [Bool.or_eq_true,decide_eq_true_eq]
 omega
theorem Vq (m:Int) (w:World) (h0:0≤m) (h1:m≤18446744073709551615):Calls Tryz.prog 190 #[.int .u64 m,.int .i64 16] w fun r w'=>r= .returned (.bool (signed m 32768))∧w'=w:=by
 have HS:=ajd (afE m h0 h1)
 go_enter Tryz.func190,Tryz.ntmps190
 go_wp2
 all_goals
  go_ret
  refine ⟨ay ?_,rfl⟩
  rw [Bool.eq_iff_iff,←HS.out]
  first
   |(simp;omega)
   |(simp only [decide_eq_true_eq];omega)
theorem afF (m:Int) (h0:0≤m) (h1:m≤18446744073709551615):(-2147483648≤wrap64 m∧wrap64 m<2147483648)↔signed m 2147483648=true:=by
 unfold signed wrap64
 simp only [Bool.or_eq_true,decide_eq_true_eq]
 omega
theorem Vr (m:Int) (w:World) (h0:0≤m) (h1:m≤18446744073709551615):Calls Tryz.prog 190 #[.int .u64 m,.int .i64 32] w fun r w'=>r= .returned (.bool (signed m 2147483648))∧w'=w:=by
 have HS:=ajd (afF m h0 h1)
 go_enter Tryz.func190,Tryz.ntmps190
 go_wp2
 all_goals
  go_ret
  refine ⟨ay ?_,rfl⟩
  rw [Bool.eq_iff_iff,←HS.out]
  first
   |(simp;omega)
   |(simp only [decide_eq_true_eq];omega)
theorem Nz (k m:Int) (s:ByteArray) (lv:Value) (e:Int) (w:World) (h0:0≤m) (h1:m≤18446744073709551615):
 Calls Tryz.prog 171 #[.agg #[.int .i64 k,.int .u64 m,.string s,lv,.int .i64 e]] w fun r w'=>r= .returned (.bool (iB k m))∧Below w.heap.size w w':=by
 have HA:=ajd (fun w=>Y8 m w h0 h1)
 have HB:=ajd (fun w=>Vq m w h0 h1)
 have HC:=ajd (fun w=>Vr m w h0 h1)
 have iM:Hid (∀ o:Obj,Below w.heap.size w (w.alloc o)):=fun o=>(Below.refl _ _).alloc (Nat.le_refl _) _
 by_cases hk:k=1
 ·subst hk
  go_enter Tryz.func171,Tryz.ntmps171
  go_wp2
  all_goals
   go_ret
   refine ⟨ay ?_,iM.out _⟩
   clear HA HB HC iM
   first
    |(simp [iB];done)
    |(rw [Bool.eq_iff_iff];simp [iB];omega)
    |(simp [iB];omega)
 have n1:=hk
 clear hk
 by_cases hk:k=2
 ·subst hk
  go_enter Tryz.func171,Tryz.ntmps171
  go_wp2
  all_goals
   go_ret
   refine ⟨ay ?_,iM.out _⟩
   clear HA HB HC iM
   first
    |(simp [iB];done)
    |(rw [Bool.eq_iff_iff];simp [iB];omega)
    |(simp [iB];omega)
 have n2:=hk
 clear hk
 by_cases hk:k=3
 ·subst hk
  go_enter Tryz.func171,Tryz.ntmps171
  go_wp2
  all_goals
   go_ret
   refine ⟨ay ?_,iM.out _⟩
   clear HA HB HC iM
   first
    |(simp [iB];done)
    |(rw [Bool.eq_iff_iff];simp [iB];omega)
    |(simp [iB];omega)
 have n3:=hk
 clear hk
 by_cases hk:k=4
 ·subst hk
  go_enter Tryz.func171,Tryz.ntmps171
  go_wp2
  all_goals
   go_ret
   refine ⟨ay ?_,iM.out _⟩
   clear HA HB HC iM
   first
    |(simp [iB];done)
    |(rw [Bool.eq_iff_iff];simp [iB];omega)
    |(simp [iB];omega)
 have n4:=hk
 clear hk
 by_cases hk:k=10
 ·subst hk
  go_enter Tryz.func171,Tryz.ntmps171
  go_wp2
  all_goals
   go_ret
   refine ⟨ay ?_,iM.out _⟩
   clear HA HB HC iM
   first
    |(simp [iB];done)
    |(rw [Bool.eq_iff_iff];simp [iB];omega)
    |(simp [iB];omega)
 have n10:=hk
 clear hk
 by_cases hk:k=12
 ·subst hk
  go_enter Tryz.func171,Tryz.ntmps171
  go_wp2
  all_goals
   go_ret
   refine ⟨ay ?_,iM.out _⟩
   clear HA HB HC iM
   first
    |(simp [iB];done)
    |(rw [Bool.eq_iff_iff];simp [iB];omega)
    |(simp [iB];omega)
 have n12:=hk
 clear hk
 by_cases hk:k=6
 ·subst hk
  go_enter Tryz.func171,Tryz.ntmps171
  go_wp2_with (go_at_call 190;refine (HA.out _).mono ?_;rintro r w2 ⟨rfl,rfl⟩)
  all_goals
   go_ret
   refine ⟨ay ?_,iM.out _⟩
   clear HA HB HC iM
   first
    |(simp [iB];done)
    |(rw [Bool.eq_iff_iff];simp [iB];omega)
    |(simp [iB];omega)
 have n6:=hk
 clear hk
 by_cases hk:k=7
 ·subst hk
  go_enter Tryz.func171,Tryz.ntmps171
  go_wp2_with (go_at_call 190;refine (HB.out _).mono ?_;rintro r w2 ⟨rfl,rfl⟩)
  all_goals
   go_ret
   refine ⟨ay ?_,iM.out _⟩
   clear HA HB HC iM
   first
    |(simp [iB];done)
    |(rw [Bool.eq_iff_iff];simp [iB];omega)
    |(simp [iB];omega)
 have n7:=hk
 clear hk
 by_cases hk:k=8
 ·subst hk
  go_enter Tryz.func171,Tryz.ntmps171
  go_wp2_with (go_at_call 190;refine (HC.out _).mono ?_;rintro r w2 ⟨rfl,rfl⟩)
  all_goals
   go_ret
   refine ⟨ay ?_,iM.out _⟩
   clear HA HB HC iM
   first
    |(simp [iB];done)
    |(rw [Bool.eq_iff_iff];simp [iB];omega)
    |(simp [iB];omega)
 have n8:=hk
 clear hk
 by_cases hk:k=15
 ·subst hk
  go_enter Tryz.func171,Tryz.ntmps171
  go_wp2
  all_goals
   go_ret
   refine ⟨ay ?_,iM.out _⟩
   clear HA HB HC iM
   first
    |(simp [iB];done)
    |(rw [Bool.eq_iff_iff];simp [iB];omega)
    |(simp [iB];omega)
 have n15:=hk
 clear hk
 go_enter Tryz.func171,Tryz.ntmps171
 go_wp2
 all_goals
  go_ret
  exact ⟨ay (by simp [iB, *]),iM.out _⟩
end Go.Proofs.YtmldhjoolebjoaaGreatDoor.Va
