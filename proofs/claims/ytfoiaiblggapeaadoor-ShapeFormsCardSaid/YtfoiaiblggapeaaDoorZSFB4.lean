/-
  The texts P7 P8 P9 PA PB L0 V5 V6 SO SM SK SS BO of this claim, one behind the other.
-/
import Derived.Test.YtfoiaiblggapeaaDoorZSFB3
import Derived.Test.YtfoiaiblggapeaaDoorZSFA1
import Derived.Test.YtfoiaiblggapeaaDoorZSFB2
import Derived.Test.YtfoiaiblggapeaaDoorZSFA0
import Derived.Test.YtfoiaiblggapeaaDoorZSFB0
import Derived.Laws.NewBlocks
set_option maxHeartbeats 40000000
set_option maxRecDepth 100000
namespace Go.Proofs.YtfoiaiblggapeaaDoor.Va
open Go Go.RowKit Nu Uc Fd Go.Proofs.YtfoiaiblggapeaaDoor.Nm
attribute [-go_sem] Go.Instr.loadAt Go.Instr.storeAt
theorem val_store {v:World} {b:Nat} {cs:List Value} (x:Box v b cs) (hl:cs.length=5) (t:VT) (a:Option Addr) (n c:Nat):∃ X,(Instr.storeAt 26 (.pointer (some ⟨b,0,none⟩)) (t.agg (.slice a n c))).run Tryd.prog v= .ok () X∧(loadVar 26 ⟨b,0,none⟩).run Tryd.prog X= .ok (t.agg (.slice a n c)) X∧Below b v X∧X.heap.size=v.heap.size∧∀ j,j≠b→X.heap[j]? =v.heap[j]? :=by
 have y:=x.all (vs:=t.cells (.slice a n c)) (by rw [hl];rfl)
 exact ⟨v.setCells b 0 (t.cells (.slice a n c)),wstore_value (x.part (o:=0) (n:=5) (by omega)),ploadVar_value y.1,setCells_below' (Nat.le_refl _) _ _,setCells_sz ..,fun j hj=>setCells_other hj _ _⟩
def readOf (n:Nat) (a:Except (Nat×Int) (Int×List VT)):Except Int VT:=match a with| .error e=> .error e.2| .ok a=> .ok (packF n a.1 a.2)
theorem readC_zero:ReadC 0:=fun _ _ _ _ _ _ _ _ _ _ _ h _=>absurd h (Nat.not_lt_zero _)
theorem readC_succ {n:Nat} (hU:UnpackS n) (hP:PackS n):ReadC (n+1):=by
 intro B N f t lv w hE hft hl hB h102 hrk hnd
 obtain ⟨p,c,rfl⟩:=hl.slice
 have hnd':(nodes t+13)*2*2^n≤800000000:=by rw [Nat.mul_assoc,←Nat.pow_succ'];exact hnd
 have hnd1:(nodes t+13)*2^n≤800000000:=Nat.le_trans (Nat.mul_le_mul_right _ (by omega)) hnd'
 obtain ⟨W1,hW1⟩:∃ W1,(w.alloc (.cells #[.int .i64 t.kind,.int .u64 t.num,.string t.text,.slice p t.list.length c,.int .i64 t.elem] 26)).alloc (.cells #[.int .i64 0,.int .u64 0,.string ⟨#[]⟩,.slice none 0 0,.int .i64 0] 26)=W1:=⟨_,rfl⟩
 obtain ⟨x1,x2,hz1,hb1⟩:=two_boxes (cs:=t.cells (.slice p t.list.length c)) (ds:=zeroT.cells (.slice none 0 0)) hW1
 have l0:=wload_value x1.1
 have HC:=Lib.hid (hU B N t (.slice p t.list.length c) W1 (hE.below hb1) hft (hl.below (hb1.mono hB)) (by omega) (by omega) hnd1)
 have X2:=Lib.hid x2
 have HB1:=Lib.hid hb1
 have HE1:=Lib.hid (hE.below hb1)
 have HP:=Lib.hid hP
 have HND:=Lib.hid hnd'
 obtain ⟨a,ha⟩:∃ a,unpackF n t=a:=⟨_,rfl⟩
 have HA:=Lib.hid ha
 have HRD:Hid (readF (n+1) f t=readOf n a):=by
  show readG _ _ f t=_
  unfold readG
  rw [if_pos h102]
  have hu:unpackG (readF n) t=a:=ha
  rw [hu]
  unfold readOf
  cases a<;>rfl
 obtain ⟨R,hR⟩:∃ R,readF (n+1) f t=R:=⟨_,rfl⟩
 rw [hR] at HRD ⊢
 have hrkn:rkO (kindOf t)≤n:=by omega
 have HRK:=Lib.hid hrkn
 unfold UnAns at HC
 rw [ha] at HC
 clear hl x1 x2 hb1 hft hU hP hE ha hR h102 hrk hnd hnd' hnd1 hrkn
 go_enter Tryd.func60,Tryd.ntmps60
 go_wp2_with (fail)
 clear hW1 l0
 refine HC.out.mono ?_
 rintro r w2 ⟨hb2,hans⟩
 have z2:W1.heap.size≤w2.heap.size:=hb2.size
 obtain ⟨x4,hz4,hb4⟩:=one_box (w:=w2) (cs:=[.int .i64 0,.slice none 0 0]) (T:=31) rfl
 have HB2:=Lib.hid (HB1.out.trans (hb2.mono (by omega)))
 have HE2:=Lib.hid (HE1.out.below hb2)
 have X2b:=Lib.hid (X2.out.below hb2 (by omega))
 clear hb2
 cases a with
 |error q=>
  obtain ⟨i,e⟩:=q
  subst hans
  have hne:e≠0:=unpackG_err (readF_err n) HA.out
  have hee:(e !=0)=true:=by simp [hne]
  obtain ⟨X5,hs5,_,_,hb5,hz5,_⟩:=rec_store x4 rfl 0 none 0 0
  have h25:Below w2.heap.size w2 X5:=hb4.trans hb5
  have x2c:=X2b.out.below h25 (by omega)
  obtain ⟨X6,hs6,hl6,hb6,hz6,_⟩:=val_store x2c rfl zeroT none 0 0
  replace hs6:(Instr.storeAt 26 (.pointer (some ⟨w.heap.size+1,0,none⟩)) (.agg #[.int .i64 0,.int .u64 0,.string ⟨#[]⟩,.slice none 0 0,.int .i64 0])).run Tryd.prog X5= .ok () X6:=hs6
  have HLV:=Lib.hid hl6
  have HQ:Hid (ReadAns R w (.returned (.tuple #[zeroT.agg (.slice none 0 0),.int .i64 e])) X6):=by
   show ReadAns R w _ X6
   rw [HRD.out]
   exact ⟨(HB2.out.trans (h25.mono (by omega))).trans (hb6.mono (by omega)),rfl⟩
  clear hb5 hz5 h25 x2c hl6 hb6 hz6 x4 hz4 hb4 hne
  go_wp2
  exact bodyPost_ret_by (results_cell_tmp2 rfl rfl HLV.out rfl) rfl HQ.out
 |ok q=>
  obtain ⟨k,l⟩:=q
  obtain ⟨lv,us,rfl,ho,hbk,hap⟩:=hans
  obtain ⟨q5,c5,rfl⟩:=ho.slice
  obtain ⟨X5,hs5,_,bx5,hb5,hz5,_⟩:=rec_store x4 rfl k q5 l.length c5
  have h25:Below w2.heap.size w2 X5:=hb4.trans hb5
  obtain ⟨fs,hk,hfs,_⟩:=unpackG_ok HA.out
  obtain ⟨hll,hrdy⟩:=unpack_ready (stayF n) HA.out hfs
  have hrkk:rk k≤n:=by have:=HRK.out;rw [hk] at this;exact this
  have hpc:=HP.out X5.heap.size LV k fs l (.slice q5 l.length c5) X5 (HE2.out.below h25) hfs hll (ho.below h25).lat (Nat.le_refl _) hrkk (Nat.le_trans (Nat.mul_le_mul_right _ (by have:=unpack_nodes2 (mild2F n) HA.out;omega)) HND.out) hrdy
  have hl5:=pload_rec bx5
  have HPC:=Lib.hid hpc
  have HZ5:Hid (w.heap.size+2≤X5.heap.size):=by show _≤_;omega
  have X2c:=Lib.hid (X2b.out.below h25 (by omega))
  have HB5:=Lib.hid (HB2.out.trans (h25.mono (by omega)))
  clear hll hrdy hrkk hfs hk ho hbk hap hb5 hz5 h25 bx5 x4 hz4 hb4 hpc X2b HC
  go_wp2_with (fail)
  refine HPC.out.mono ?_
  rintro r w6 ⟨lv6,us6,rfl,ho6,hbk6,hap6,hb6⟩
  obtain ⟨q6,c6,rfl⟩:=ho6.slice
  have z6:X5.heap.size≤w6.heap.size:=hb6.size
  have z5:=HZ5.out
  obtain ⟨X7,hs7,hl7,hb7,hz7,hsame⟩:=val_store (X2c.out.below hb6 (by omega)) rfl (packF n k l) q6 (packF n k l).list.length c6
  have HLV:=Lib.hid hl7
  have HQ:Hid (ReadAns R w (.returned (.tuple #[(packF n k l).agg (.slice q6 (packF n k l).list.length c6),.int .i64 0])) X7):=by
   show ReadAns R w _ X7
   rw [HRD.out]
   refine ⟨(HB5.out.trans (hb6.mono (by omega))).trans (hb7.mono (by omega)),_,us6,rfl,packV_fine _ _,ho6.heap (by omega) fun u hu b hb=>hsame b (by have:=hbk6 u hu b hb;omega),?_,hap6⟩
   rw [hz7]
   exact hbk6.mono (by omega) (Nat.le_refl _)
  clear hl7 hb7 hz7 hsame ho6 hbk6 hap6 hb6
  go_wp2
  exact bodyPost_ret_by (results_cell_tmp2 rfl rfl HLV.out rfl) rfl HQ.out
theorem readC_any:∀ n,ReadC n
 |0=>readC_zero
 |n+1=>readC_succ (unpack_of (readC_any n)) (pack_of (readC_any n))
theorem pack_any (n:Nat):PackS n:=pack_of (readC_any n)
theorem unpack_any (n:Nat):UnpackS n:=unpack_of (readC_any n)
theorem val_put {v:World} {b:Nat} {cs:List Value} (x:Box v b cs) (hl:cs.length=5) (t:VT) (a:Option Addr) (n c:Nat):∃ X,(Instr.storeAt 26 (.pointer (some ⟨b,0,none⟩)) (t.agg (.slice a n c))).run Tryd.prog v= .ok () X∧(loadVar 26 ⟨b,0,none⟩).run Tryd.prog X= .ok (t.agg (.slice a n c)) X∧Below b v X∧X.heap.size=v.heap.size∧∀ j,j≠b→X.heap[j]? =v.heap[j]? :=by
 have y:=x.all (vs:=t.cells (.slice a n c)) (by rw [hl];rfl)
 exact ⟨v.setCells b 0 (t.cells (.slice a n c)),wstore_value (x.part (o:=0) (n:=5) (by omega)),ploadVar_value y.1,setCells_below' (Nat.le_refl _) _ _,setCells_sz ..,fun j hj=>setCells_other hj _ _⟩
theorem pint {a b:Int} (h:a=b):Ending.returned (.int .i64 a)= .returned (.int .i64 b):=by rw [h]
def errI (a:Except Int VT):Int:=match a with| .error e=>e| .ok _=>0
theorem ReadAns.get2 {a:Except Int VT} {w w':World} {r:Ending} (h:ReadAns a w r w'):Below w.heap.size w w'∧∃ q d us,r= .returned (.tuple #[(okV a).agg (.slice q (okV a).list.length d),.int .i64 (errI a)])∧(okV a).Fine∧OL w' LV (.slice q (okV a).list.length d) (okV a).list us∧Blk w.heap.size w'.heap.size us∧ApartV us:=by
 obtain ⟨hb,h⟩:=h
 refine ⟨hb,?_⟩
 cases a with
 |ok y=>
  obtain ⟨lv,us,h1,h2,h3,h4,h5⟩:=h
  obtain ⟨q,d,rfl⟩:=h3.slice
  exact ⟨q,d,us,h1,h2,h3,h4,h5⟩
 |error e=>exact ⟨none,0,[.slice none 0 0],h,zeroT_fine,OL.nil _ _,Blk.none _ _,ApartV.one _⟩
theorem fcheck_any {n lo hi N B:Nat} (hRC:ReadC n) (f:FT) (kv:Value) (t:VT) (lv:Value) (w:World) (hE:Env w) (hk:KsOwn lo hi w kv f.kinds) (hkl:f.kinds.length≤1000) (hft:t.Fine) (hl:LAt B w N lv t.list) (hB:B≤w.heap.size) (hrk:f.type=102→wantedT f t=true→rkO (kindOf t)<n) (hnd:(nodes t+13)*2^n≤800000000):
 Calls Tryd.prog 26 #[fagg f kv,t.agg lv] w fun r w'=>r= .returned (.int .i64 (fieldC (readF n) f t))∧Below w.heap.size w w':=by
 have hnd2:nodes t≤800000000:=by have:=Nat.le_mul_of_pos_right (nodes t+13) (Nat.two_pow_pos n);omega
 obtain ⟨p,c,rfl⟩:=hl.slice
 obtain ⟨kp,kc,rfl,hku⟩:=hk.view
 obtain ⟨W1,hW1⟩:∃ W1,(w.alloc (.cells #[.string ⟨f.name.toArray⟩,.int .i64 f.type,.slice kp f.kinds.length kc,.bool f.must,.int .i64 f.dk,.int .u64 f.dn,.string ⟨f.dt.toArray⟩,.slice none 0 0,.int .i64 0] 50)).alloc (.cells #[.int .i64 t.kind,.int .u64 t.num,.string t.text,.slice p t.list.length c,.int .i64 t.elem] 26)=W1:=⟨_,rfl⟩
 obtain ⟨x1,x2,hz1,hb1⟩:=two_boxes (cs:=fcell f (.slice kp f.kinds.length kc)) (ds:=t.cells (.slice p t.list.length c)) hW1
 have l1:=pload_int (x2.cell (j:=0) rfl)
 have l2:=pload_bool (x1.cell (j:=3) rfl)
 have l3:=wload_value x2.1
 have hE1:=hE.below hb1
 have HCK:=Lib.hid (check_any (N:=N) t (.slice p t.list.length c) W1 hE1.2 hft ((hl.below (hb1.mono hB)).up (by omega)) (by omega))
 have X1:=Lib.hid x1
 have X2:=Lib.hid x2
 have HB1:=Lib.hid hb1
 have HE1:=Lib.hid hE1
 have HL1:Hid (LAt B W1 N (.slice p t.list.length c) t.list):=hl.below (hb1.mono hB)
 have HK1:=Lib.hid (hk.below hb1)
 have HRC0:=Lib.hid hRC
 have HRK:=Lib.hid hrk
 have HND:=Lib.hid hnd
 have HFT:=Lib.hid hft
 have HFC:Hid (fieldC (readF n) f t=if t.kind=0∧f.must=true then 72 else if checkT t 1≠0∨t.kind=0 then checkT t 1 else if wantedT f t=false then 73 else match readF n f t with| .error e=>e| .ok _=>0):=by
  show _=_
  unfold fieldC
  cases readF n f t<;>rfl
 obtain ⟨R,hR⟩:∃ R,fieldC (readF n) f t=R:=⟨_,rfl⟩
 obtain ⟨C,hC⟩:∃ C,checkT t 1=C:=⟨_,rfl⟩
 rw [hR] at HFC ⊢
 rw [hC] at HFC HCK
 have HCC:=Lib.hid hC
 clear hl hk hE hE1 x1 x2 hb1 hku hRC hrk hnd hR hC hft
 show Calls Tryd.prog 26 #[.agg #[.string ⟨f.name.toArray⟩,.int .i64 f.type,.slice kp f.kinds.length kc,.bool f.must,.int .i64 f.dk,.int .u64 f.dn,.string ⟨f.dt.toArray⟩,.slice none 0 0,.int .i64 0],.agg #[.int .i64 t.kind,.int .u64 t.num,.string t.text,.slice p t.list.length c,.int .i64 t.elem]] w _
 by_cases hm:t.kind=0∧f.must=true
 ·have HRE:Hid (R=72):=HFC.out.trans (if_pos hm)
  rw [hm.1] at l1
  rw [hm.2] at l2
  clear hm
  go_enter Tryd.func26,Tryd.ntmps26
  go_wp2
  go_ret
  exact ⟨pint HRE.out.symm,HB1.out⟩
 have HFC2:=Lib.hid (HFC.out.trans (if_neg hm))
 have HCK2:Hid (Calls Tryd.prog 24 #[t.agg (.slice p t.list.length c)] W1 fun r w2=>r= .returned (.int .i64 C)∧Below W1.heap.size W1 w2):=HCK.out.mono fun r w2 ⟨h1,h2⟩=>⟨h1,h2.below⟩
 by_cases hk0:t.kind=0
 ·have hmf:f.must=false:=by
   cases h:f.must with
   |false=>rfl
   |true=>exact absurd ⟨hk0,h⟩ hm
  have HRE:Hid (R=C):=HFC2.out.trans (if_pos (.inr hk0))
  have HKZ:Hid (∀ v,Below W1.heap.size W1 v→(Instr.loadAt 3 (.pointer (some ⟨w.heap.size+1,0,none⟩))).run Tryd.prog v= .ok (.int .i64 0) v):=fun v h=>by
   have:=pload_int ((X2.out.below h (by omega)).cell (j:=0) rfl)
   rw [←hk0];exact this
  rw [hk0] at l1
  rw [hmf] at l2
  clear hm hmf hk0
  by_cases hC0:C=0
  ·subst hC0
   go_enter Tryd.func26,Tryd.ntmps26
   go_wp2_with (go_at_call 24;refine HCK2.out.mono ?_;rintro r w2 ⟨rfl,hb2⟩;have HB2:=Lib.hid (HB1.out.trans (hb2.mono (by omega)));have l4:=HKZ.out w2 hb2;clear hb2)
   go_ret
   exact ⟨pint HRE.out.symm,HB2.out⟩
  ·have hcb:(C !=0)=true:=by simp [hC0]
   clear hC0
   go_enter Tryd.func26,Tryd.ntmps26
   go_wp2_with (go_at_call 24;refine HCK2.out.mono ?_;rintro r w2 ⟨rfl,hb2⟩;have HB2:=Lib.hid (HB1.out.trans (hb2.mono (by omega)));have l4:=HKZ.out w2 hb2;clear hb2)
   go_ret
   exact ⟨pint HRE.out.symm,HB2.out⟩
 have hkb:(t.kind==0)=false:=by simp [hk0]
 have HK0:=Lib.hid hk0
 clear hm hk0
 by_cases hC0:C=0
 case neg=>
  have HRE:Hid (R=C):=HFC2.out.trans (if_pos (.inl hC0))
  have hcb:(C !=0)=true:=by simp [hC0]
  clear hC0
  go_enter Tryd.func26,Tryd.ntmps26
  go_wp2_with (go_at_call 24;refine HCK2.out.mono ?_;rintro r w2 ⟨rfl,hb2⟩;have HB2:=Lib.hid (HB1.out.trans (hb2.mono (by omega)));clear hb2)
  all_goals
   go_ret
   exact ⟨pint HRE.out.symm,HB2.out⟩
 subst hC0
 have HFC3:=Lib.hid (HFC2.out.trans (if_neg (by rintro (h|h);exact h rfl;exact HK0.out h)))
 obtain ⟨Z,hZ⟩:∃ Z,wantedT f t=Z:=⟨_,rfl⟩
 have HZZ:=Lib.hid hZ
 rw [hZ] at HFC3
 go_enter Tryd.func26,Tryd.ntmps26
 go_wp2_with (go_at_call 24;refine HCK2.out.mono ?_;rintro r w2 ⟨rfl,hb2⟩;have HB2:=Lib.hid hb2;have l4:=pload_int ((X2.out.below hb2 (by omega)).cell (j:=0) rfl);have l5:=pload_field (X1.out.below hb2 (by omega)).1;have l6:=wload_value (X2.out.below hb2 (by omega)).1;have HWT:Hid (Calls Tryd.prog 39 #[fagg f (.slice kp f.kinds.length kc),t.agg (.slice p t.list.length c)] w2 fun r w'=>r= .returned (.bool Z)∧Below w2.heap.size w2 w'):=(by have:=wanted_any (N:=N) (B:=B) f (.slice kp f.kinds.length kc) t (.slice p t.list.length c) w2 (HE1.out.below hb2) (HK1.out.below hb2) hkl HFT.out (HL1.out.below (hb2.mono (by omega))) (by have:=hb2.size;omega);rw [hZ] at this;exact this);clear hb2)
 refine HWT.out.mono ?_
 rintro r V ⟨rfl,hbv⟩
 have HBV2:=Lib.hid (HB2.out.trans (hbv.mono HB2.out.size))
 have HBV:=Lib.hid (HB1.out.trans (HBV2.out.mono (by omega)))
 have hzV:W1.heap.size≤V.heap.size:=HBV2.out.size
 have HLF:Hid (∀ v,Below V.heap.size V v→(Instr.loadAt 50 (.pointer (some ⟨w.heap.size,0,none⟩))).run Tryd.prog v= .ok (fagg f (.slice kp f.kinds.length kc)) v):=fun v h=>pload_field (X1.out.below (HBV2.out.trans (h.mono hzV)) (by omega)).1
 have HLT:Hid (∀ v,Below V.heap.size V v→(Instr.loadAt 26 (.pointer (some ⟨w.heap.size+1,0,none⟩))).run Tryd.prog v= .ok (t.agg (.slice p t.list.length c)) v):=fun v h=>wload_value (X2.out.below (HBV2.out.trans (h.mono hzV)) (by omega)).1
 have HVV:Hid (∀ v,Below V.heap.size V v→Env v∧LAt B v N (.slice p t.list.length c) t.list∧B≤v.heap.size):=fun v h=>⟨HE1.out.below (HBV2.out.trans (h.mono hzV)),HL1.out.below ((HBV2.out.trans (h.mono hzV)).mono (by omega)),by have:=h.size;omega⟩
 clear hbv
 cases Z with
 |false=>
  have HRE:Hid (R=73):=HFC3.out.trans (if_pos rfl)
  go_wp2
  go_ret
  exact ⟨pint HRE.out.symm,HBV.out⟩
 |true=>
  have HFC4:=Lib.hid (HFC3.out.trans (if_neg (by simp)))
  by_cases h102:f.type=102
  ·have HFN:Hid (rdFn f= .func (.func 60) #[] #[]):=if_pos h102
   obtain ⟨a,ha⟩:∃ a,readF n f t=a:=⟨_,rfl⟩
   have HRDC:Hid (∀ v,Below V.heap.size V v→Calls Tryd.prog 60 #[t.agg (.slice p t.list.length c)] v fun r w'=>ReadAns a v r w'):=fun v h=>by
    have:=HRC0.out B N f t _ v (HVV.out v h).1 HFT.out (HVV.out v h).2.1 (HVV.out v h).2.2 h102 (HRK.out h102 HZZ.out) HND.out
    rw [ha] at this
    exact this
   rw [ha] at HFC4
   clear h102 ha
   have HRE:Hid (R=errI a):=HFC4.out.trans (by cases a<;>rfl)
   obtain ⟨z,hz0⟩:∃ z,okV a=z:=⟨_,rfl⟩
   have hzD:V.drew.heap.size=V.heap.size:=rfl
   have hD:Below V.heap.size V V.drew:=(Below.refl _ _).drew
   have hDA:Below V.heap.size V ((V.alloc (.cells #[.int .i64 0,.int .u64 0,.string ⟨#[]⟩,.slice none 0 0,.int .i64 0] 26)).drew):=((Below.refl _ _).alloc (Nat.le_refl _) _).drew
   have hld1:=HLF.out V.drew hD
   have hld2:=HLT.out V.drew hD
   have hld1A:=HLF.out ((V.alloc (.cells #[.int .i64 0,.int .u64 0,.string ⟨#[]⟩,.slice none 0 0,.int .i64 0] 26)).drew) hDA
   have hld2A:=HLT.out ((V.alloc (.cells #[.int .i64 0,.int .u64 0,.string ⟨#[]⟩,.slice none 0 0,.int .i64 0] 26)).drew) hDA
   go_wp2
   go_region_held3 (fun v=>(Instr.loadAt 50 (.pointer (some ⟨w.heap.size,0,none⟩))).run Tryd.prog v= .ok (fagg f (.slice kp f.kinds.length kc)) v∧(Instr.loadAt 26 (.pointer (some ⟨w.heap.size+1,0,none⟩))).run Tryd.prog v= .ok (t.agg (.slice p t.list.length c)) v)
    (first
      |with_reducible exact hv8
      |with_reducible exact hv7
      |with_reducible exact hv6
      |with_reducible exact ⟨hld3B,hld4B⟩
      |with_reducible exact ⟨hld3,hld4⟩
      |with_reducible exact ⟨hld1A,hld2A⟩
      |with_reducible exact ⟨hld1,hld2⟩)
    ((first
      |(go_at_call 40
        go_must (
        first
         |(refine (readerOf_any f (.slice kp f.kinds.length kc) V.drew).mono ?_
           rintro r w5 ⟨rfl,hb5'⟩
           have hb5:Below V.heap.size V w5:=hD.trans hb5')
         |(refine (readerOf_any f (.slice kp f.kinds.length kc) ((V.alloc (.cells #[.int .i64 0,.int .u64 0,.string ⟨#[]⟩,.slice none 0 0,.int .i64 0] 26)).drew)).mono ?_
           rintro r w5 ⟨rfl,hb5'⟩
           obtain ⟨xA0,hzA0,_⟩:=one_box (w:=V) (cs:=zeroT.cells (.slice none 0 0)) (T:=26) rfl
           have hzA:V.heap.size+1≤w5.heap.size:=by have:=hb5'.size;have:((V.alloc (.cells #[.int .i64 0,.int .u64 0,.string ⟨#[]⟩,.slice none 0 0,.int .i64 0] 26)).drew).heap.size=V.heap.size+1:=hzA0;omega
           have xA1:Box ((V.alloc (.cells #[.int .i64 0,.int .u64 0,.string ⟨#[]⟩,.slice none 0 0,.int .i64 0] 26)).drew) V.heap.size (zeroT.cells (.slice none 0 0)):=xA0.heap rfl
           have xA:Box w5 V.heap.size (zeroT.cells (.slice none 0 0)):=xA1.below hb5' (by have:((V.alloc (.cells #[.int .i64 0,.int .u64 0,.string ⟨#[]⟩,.slice none 0 0,.int .i64 0] 26)).drew).heap.size=V.heap.size+1:=hzA0;omega)
           have hb5:Below V.heap.size V w5:=hDA.trans (hb5'.mono hDA.size)
           clear xA0 xA1 hzA0)
        clear hb5'
        have hz5:V.heap.size≤w5.heap.size:=hb5.size
        have hld3:=HLF.out w5 hb5
        have hld4:=HLT.out w5 hb5
        have hbB:Below V.heap.size V (w5.alloc (.cells #[.int .i64 0,.int .u64 0,.string ⟨#[]⟩,.slice none 0 0,.int .i64 0] 26)):=hb5.trans ((Below.refl _ _).alloc hz5 _)
        have hld4B:=HLT.out (w5.alloc (.cells #[.int .i64 0,.int .u64 0,.string ⟨#[]⟩,.slice none 0 0,.int .i64 0] 26)) hbB
        have hld3B:=HLF.out (w5.alloc (.cells #[.int .i64 0,.int .u64 0,.string ⟨#[]⟩,.slice none 0 0,.int .i64 0] 26)) hbB
        rw [HFN.out]))
      |(go_at_call 60
        go_must (
        first
         |(refine (HRDC.out w5 hb5).mono ?_
           rintro r w6 hans
           have hget:=hans.get2
           rw [hz0] at hget
           obtain ⟨hb6,q6,c6,us6,rfl,zf,zo,zk,za⟩:=hget
           clear zf zo zk za
           have hz6:w5.heap.size≤w6.heap.size:=hb6.size
           first
            |(have hAA:=xA
              clear hAA
              have x7:=xA.below hb6 (by have:V.heap.size+1≤w5.heap.size:=hzA;omega)
              have h7:Below V.heap.size V w6:=hb5.trans (hb6.mono hz5)
              have hbx:V.heap.size≤V.heap.size:=Nat.le_refl _
              have hv7:=And.intro (HLF.out _ h7) (HLT.out _ h7)
              obtain ⟨X8,hst8,_,hb8,_,_⟩:=val_put x7 rfl (z) q6 (z.list.length) c6
              have hst8':(Instr.storeAt 26 (.pointer (some ⟨V.heap.size,0,none⟩)) (.agg #[.int .i64 z.kind,.int .u64 z.num,.string z.text,.slice q6 z.list.length c6,.int .i64 z.elem])).run Tryd.prog w6= .ok () X8:=hst8
              have h8:Below V.heap.size V X8:=h7.trans (hb8.mono hbx)
              have HV8:=Lib.hid h8
              have hv8:=And.intro (HLF.out _ h8) (HLT.out _ h8)
              clear h8 hb8 h7 x7 hb6)
            |(
              obtain ⟨x7,hz7,hb7⟩:=one_box (w:=w6) (cs:=zeroT.cells (.slice none 0 0)) (T:=26) rfl
              have h6:Below V.heap.size V w6:=hb5.trans (hb6.mono hz5)
              have h7:Below V.heap.size V (w6.alloc (.cells #[.int .i64 0,.int .u64 0,.string ⟨#[]⟩,.slice none 0 0,.int .i64 0] 26)):=h6.trans (hb7.mono h6.size)
              have hbx:V.heap.size≤w6.heap.size:=h6.size
              have hv6:=And.intro (HLF.out _ h6) (HLT.out _ h6)
              have hv7:=And.intro (HLF.out _ h7) (HLT.out _ h7)
              obtain ⟨X8,hst8,_,hb8,_,_⟩:=val_put x7 rfl (z) q6 (z.list.length) c6
              have hst8':(Instr.storeAt 26 (.pointer (some ⟨w6.heap.size,0,none⟩)) (.agg #[.int .i64 z.kind,.int .u64 z.num,.string z.text,.slice q6 z.list.length c6,.int .i64 z.elem])).run Tryd.prog (w6.alloc (.cells #[.int .i64 0,.int .u64 0,.string ⟨#[]⟩,.slice none 0 0,.int .i64 0] 26))= .ok () X8:=hst8
              have h8:Below V.heap.size V X8:=h7.trans (hb8.mono hbx)
              have HV8:=Lib.hid h8
              have hv8:=And.intro (HLF.out _ h8) (HLT.out _ h8)
              clear h8 hb8 h7 x7 hb6))
         |(refine (HRDC.out (w5.alloc (.cells #[.int .i64 0,.int .u64 0,.string ⟨#[]⟩,.slice none 0 0,.int .i64 0] 26)) hbB).mono ?_
           rintro r w6 hans
           have hget:=hans.get2
           rw [hz0] at hget
           obtain ⟨hb6,q6,c6,us6,rfl,zf,zo,zk,za⟩:=hget
           clear zf zo zk za
           obtain ⟨xB,hzB,_⟩:=one_box (w:=w5) (cs:=zeroT.cells (.slice none 0 0)) (T:=26) rfl
           have hzB:(w5.alloc (.cells #[.int .i64 0,.int .u64 0,.string ⟨#[]⟩,.slice none 0 0,.int .i64 0] 26)).heap.size=w5.heap.size+1:=hzB
           have xB:Box (w5.alloc (.cells #[.int .i64 0,.int .u64 0,.string ⟨#[]⟩,.slice none 0 0,.int .i64 0] 26)) w5.heap.size (zeroT.cells (.slice none 0 0)):=xB
           have hz6:(w5.alloc (.cells #[.int .i64 0,.int .u64 0,.string ⟨#[]⟩,.slice none 0 0,.int .i64 0] 26)).heap.size≤w6.heap.size:=hb6.size
           have x7:=xB.below hb6 (by omega)
           have h7:Below V.heap.size V w6:=hbB.trans (hb6.mono (by omega))
           have hbx:V.heap.size≤w5.heap.size:=by omega
           have hv7:=And.intro (HLF.out _ h7) (HLT.out _ h7)
           obtain ⟨X8,hst8,_,hb8,_,_⟩:=val_put x7 rfl (z) q6 (z.list.length) c6
           have hst8':(Instr.storeAt 26 (.pointer (some ⟨w5.heap.size,0,none⟩)) (.agg #[.int .i64 z.kind,.int .u64 z.num,.string z.text,.slice q6 z.list.length c6,.int .i64 z.elem])).run Tryd.prog w6= .ok () X8:=hst8
           have h8:Below V.heap.size V X8:=h7.trans (hb8.mono hbx)
           have HV8:=Lib.hid h8
           have hv8:=And.intro (HLF.out _ h8) (HLT.out _ h8)
           clear h8 hb8 h7 x7 hb6)))))
   all_goals
    go_wp2
    go_ret
    exact ⟨pint HRE.out.symm,HBV.out.trans (HV8.out.mono (by omega))⟩
  ·have HFN:Hid (rdFn f= .func (.func 61) #[] #[]):=if_neg h102
   have HRE:Hid (R=0):=HFC4.out.trans (by rw [readF_plain n f t h102])
   have HRDC:Hid (∀ v,Below V.heap.size V v→Calls Tryd.prog 61 #[t.agg (.slice p t.list.length c)] v fun r w'=>ReadAns (.ok t) v r w'):=fun v h=>reader2_any (N:=N) (B:=B) t _ v HFT.out (HVV.out v h).2.1 (HVV.out v h).2.2 (by omega)
   clear h102
   have hzD:V.drew.heap.size=V.heap.size:=rfl
   have hD:Below V.heap.size V V.drew:=(Below.refl _ _).drew
   have hDA:Below V.heap.size V ((V.alloc (.cells #[.int .i64 0,.int .u64 0,.string ⟨#[]⟩,.slice none 0 0,.int .i64 0] 26)).drew):=((Below.refl _ _).alloc (Nat.le_refl _) _).drew
   have hld1:=HLF.out V.drew hD
   have hld2:=HLT.out V.drew hD
   have hld1A:=HLF.out ((V.alloc (.cells #[.int .i64 0,.int .u64 0,.string ⟨#[]⟩,.slice none 0 0,.int .i64 0] 26)).drew) hDA
   have hld2A:=HLT.out ((V.alloc (.cells #[.int .i64 0,.int .u64 0,.string ⟨#[]⟩,.slice none 0 0,.int .i64 0] 26)).drew) hDA
   go_wp2
   go_region_held3 (fun v=>(Instr.loadAt 50 (.pointer (some ⟨w.heap.size,0,none⟩))).run Tryd.prog v= .ok (fagg f (.slice kp f.kinds.length kc)) v∧(Instr.loadAt 26 (.pointer (some ⟨w.heap.size+1,0,none⟩))).run Tryd.prog v= .ok (t.agg (.slice p t.list.length c)) v)
    (first
      |with_reducible exact hv8
      |with_reducible exact hv7
      |with_reducible exact hv6
      |with_reducible exact ⟨hld3B,hld4B⟩
      |with_reducible exact ⟨hld3,hld4⟩
      |with_reducible exact ⟨hld1A,hld2A⟩
      |with_reducible exact ⟨hld1,hld2⟩)
    ((first
      |(go_at_call 40
        go_must (
        first
         |(refine (readerOf_any f (.slice kp f.kinds.length kc) V.drew).mono ?_
           rintro r w5 ⟨rfl,hb5'⟩
           have hb5:Below V.heap.size V w5:=hD.trans hb5')
         |(refine (readerOf_any f (.slice kp f.kinds.length kc) ((V.alloc (.cells #[.int .i64 0,.int .u64 0,.string ⟨#[]⟩,.slice none 0 0,.int .i64 0] 26)).drew)).mono ?_
           rintro r w5 ⟨rfl,hb5'⟩
           obtain ⟨xA0,hzA0,_⟩:=one_box (w:=V) (cs:=zeroT.cells (.slice none 0 0)) (T:=26) rfl
           have hzA:V.heap.size+1≤w5.heap.size:=by have:=hb5'.size;have:((V.alloc (.cells #[.int .i64 0,.int .u64 0,.string ⟨#[]⟩,.slice none 0 0,.int .i64 0] 26)).drew).heap.size=V.heap.size+1:=hzA0;omega
           have xA1:Box ((V.alloc (.cells #[.int .i64 0,.int .u64 0,.string ⟨#[]⟩,.slice none 0 0,.int .i64 0] 26)).drew) V.heap.size (zeroT.cells (.slice none 0 0)):=xA0.heap rfl
           have xA:Box w5 V.heap.size (zeroT.cells (.slice none 0 0)):=xA1.below hb5' (by have:((V.alloc (.cells #[.int .i64 0,.int .u64 0,.string ⟨#[]⟩,.slice none 0 0,.int .i64 0] 26)).drew).heap.size=V.heap.size+1:=hzA0;omega)
           have hb5:Below V.heap.size V w5:=hDA.trans (hb5'.mono hDA.size)
           clear xA0 xA1 hzA0)
        clear hb5'
        have hz5:V.heap.size≤w5.heap.size:=hb5.size
        have hld3:=HLF.out w5 hb5
        have hld4:=HLT.out w5 hb5
        have hbB:Below V.heap.size V (w5.alloc (.cells #[.int .i64 0,.int .u64 0,.string ⟨#[]⟩,.slice none 0 0,.int .i64 0] 26)):=hb5.trans ((Below.refl _ _).alloc hz5 _)
        have hld4B:=HLT.out (w5.alloc (.cells #[.int .i64 0,.int .u64 0,.string ⟨#[]⟩,.slice none 0 0,.int .i64 0] 26)) hbB
        have hld3B:=HLF.out (w5.alloc (.cells #[.int .i64 0,.int .u64 0,.string ⟨#[]⟩,.slice none 0 0,.int .i64 0] 26)) hbB
        rw [HFN.out]))
      |(go_at_call 61
        go_must (
        first
         |(refine (HRDC.out w5 hb5).mono ?_
           rintro r w6 hans
           obtain ⟨hb6,lv6,us6,rfl,zf,zo,zk,za⟩:=hans
           obtain ⟨q6,c6,rfl⟩:=zo.slice
           clear zf zo zk za
           have hz6:w5.heap.size≤w6.heap.size:=hb6.size
           first
            |(have hAA:=xA
              clear hAA
              have x7:=xA.below hb6 (by have:V.heap.size+1≤w5.heap.size:=hzA;omega)
              have h7:Below V.heap.size V w6:=hb5.trans (hb6.mono hz5)
              have hbx:V.heap.size≤V.heap.size:=Nat.le_refl _
              have hv7:=And.intro (HLF.out _ h7) (HLT.out _ h7)
              obtain ⟨X8,hst8,_,hb8,_,_⟩:=val_put x7 rfl (t) q6 (t.list.length) c6
              have hst8':(Instr.storeAt 26 (.pointer (some ⟨V.heap.size,0,none⟩)) (.agg #[.int .i64 t.kind,.int .u64 t.num,.string t.text,.slice q6 t.list.length c6,.int .i64 t.elem])).run Tryd.prog w6= .ok () X8:=hst8
              have h8:Below V.heap.size V X8:=h7.trans (hb8.mono hbx)
              have HV8:=Lib.hid h8
              have hv8:=And.intro (HLF.out _ h8) (HLT.out _ h8)
              clear h8 hb8 h7 x7 hb6)
            |(
              obtain ⟨x7,hz7,hb7⟩:=one_box (w:=w6) (cs:=zeroT.cells (.slice none 0 0)) (T:=26) rfl
              have h6:Below V.heap.size V w6:=hb5.trans (hb6.mono hz5)
              have h7:Below V.heap.size V (w6.alloc (.cells #[.int .i64 0,.int .u64 0,.string ⟨#[]⟩,.slice none 0 0,.int .i64 0] 26)):=h6.trans (hb7.mono h6.size)
              have hbx:V.heap.size≤w6.heap.size:=h6.size
              have hv6:=And.intro (HLF.out _ h6) (HLT.out _ h6)
              have hv7:=And.intro (HLF.out _ h7) (HLT.out _ h7)
              obtain ⟨X8,hst8,_,hb8,_,_⟩:=val_put x7 rfl (t) q6 (t.list.length) c6
              have hst8':(Instr.storeAt 26 (.pointer (some ⟨w6.heap.size,0,none⟩)) (.agg #[.int .i64 t.kind,.int .u64 t.num,.string t.text,.slice q6 t.list.length c6,.int .i64 t.elem])).run Tryd.prog (w6.alloc (.cells #[.int .i64 0,.int .u64 0,.string ⟨#[]⟩,.slice none 0 0,.int .i64 0] 26))= .ok () X8:=hst8
              have h8:Below V.heap.size V X8:=h7.trans (hb8.mono hbx)
              have HV8:=Lib.hid h8
              have hv8:=And.intro (HLF.out _ h8) (HLT.out _ h8)
              clear h8 hb8 h7 x7 hb6))
         |(refine (HRDC.out (w5.alloc (.cells #[.int .i64 0,.int .u64 0,.string ⟨#[]⟩,.slice none 0 0,.int .i64 0] 26)) hbB).mono ?_
           rintro r w6 hans
           obtain ⟨hb6,lv6,us6,rfl,zf,zo,zk,za⟩:=hans
           obtain ⟨q6,c6,rfl⟩:=zo.slice
           clear zf zo zk za
           obtain ⟨xB,hzB,_⟩:=one_box (w:=w5) (cs:=zeroT.cells (.slice none 0 0)) (T:=26) rfl
           have hzB:(w5.alloc (.cells #[.int .i64 0,.int .u64 0,.string ⟨#[]⟩,.slice none 0 0,.int .i64 0] 26)).heap.size=w5.heap.size+1:=hzB
           have xB:Box (w5.alloc (.cells #[.int .i64 0,.int .u64 0,.string ⟨#[]⟩,.slice none 0 0,.int .i64 0] 26)) w5.heap.size (zeroT.cells (.slice none 0 0)):=xB
           have hz6:(w5.alloc (.cells #[.int .i64 0,.int .u64 0,.string ⟨#[]⟩,.slice none 0 0,.int .i64 0] 26)).heap.size≤w6.heap.size:=hb6.size
           have x7:=xB.below hb6 (by omega)
           have h7:Below V.heap.size V w6:=hbB.trans (hb6.mono (by omega))
           have hbx:V.heap.size≤w5.heap.size:=by omega
           have hv7:=And.intro (HLF.out _ h7) (HLT.out _ h7)
           obtain ⟨X8,hst8,_,hb8,_,_⟩:=val_put x7 rfl (t) q6 (t.list.length) c6
           have hst8':(Instr.storeAt 26 (.pointer (some ⟨w5.heap.size,0,none⟩)) (.agg #[.int .i64 t.kind,.int .u64 t.num,.string t.text,.slice q6 t.list.length c6,.int .i64 t.elem])).run Tryd.prog w6= .ok () X8:=hst8
           have h8:Below V.heap.size V X8:=h7.trans (hb8.mono hbx)
           have HV8:=Lib.hid h8
           have hv8:=And.intro (HLF.out _ h8) (HLT.out _ h8)
           clear h8 hb8 h7 x7 hb6)))))
   all_goals
    go_wp2
    go_ret
    exact ⟨pint HRE.out.symm,HBV.out.trans (HV8.out.mono (by omega))⟩
theorem val_box {v:World} {b:Nat} {cs:List Value} (x:Box v b cs) (hl:cs.length=5) (t:VT) (a:Option Addr) (n c:Nat):∃ X,(Instr.storeAt 26 (.pointer (some ⟨b,0,none⟩)) (t.agg (.slice a n c))).run Tryd.prog v= .ok () X∧Box X b (t.cells (.slice a n c))∧Below b v X∧X.heap.size=v.heap.size:=
 ⟨v.setCells b 0 (t.cells (.slice a n c)),wstore_value (x.part (o:=0) (n:=5) (by omega)),x.all (vs:=t.cells (.slice a n c)) (by rw [hl];rfl),setCells_below' (Nat.le_refl _) _ _,setCells_sz ..⟩
def recOf (k:Int) (l:List VT) (o:Option (List FT)):Int:=match o with|none=>70|some fs=>if l.length≠fs.length then 71 else if fieldsC (readF 3) fs l≠0 then fieldsC (readF 3) fs l else if 32<depthT (packF 3 k l) then 26 else 0
theorem recC_of (k:Int) (l:List VT):recC (readF 3) (packF 3) k l=recOf k l (fieldsT k):=by
 unfold recC recOf
 cases fieldsT k<;>rfl
theorem recCheck_any {N B:Nat} (k:Int) (l:List VT) (lv:Value) (w:World) (hE:Env w) (hl:LAt B w N lv l) (hB:B≤w.heap.size) (hnd:(nodesL l+13)*2^3≤800000000):
 Calls Tryd.prog 14 #[.agg #[.int .i64 k,lv]] w fun r w'=>r= .returned (.int .i64 (recC (readF 3) (packF 3) k l))∧Below w.heap.size w w':=by
 obtain ⟨p,c,rfl⟩:=hl.slice
 obtain ⟨W1,hW1⟩:∃ W1,w.alloc (.cells #[.int .i64 k,.slice p l.length c] 31)=W1:=⟨_,rfl⟩
 obtain ⟨x1,hz1,hb1⟩:=one_box (cs:=[.int .i64 k,.slice p l.length c]) hW1
 have l0:=pload_int (x1.cell (j:=0) rfl)
 have X1:=Lib.hid x1
 have HB1:=Lib.hid hb1
 have HE1:=Lib.hid (hE.below hb1)
 have HL:=Lib.hid hl
 have HND:=Lib.hid hnd
 have hfk:=fields_any k W1
 unfold FieldsAns at hfk
 obtain ⟨R,hR⟩:∃ R,recC (readF 3) (packF 3) k l=R:=⟨_,rfl⟩
 obtain ⟨of,hof⟩:∃ of,fieldsT k=of:=⟨_,rfl⟩
 have HOF:=Lib.hid hof
 have HR:Hid (R=recOf k l of):=by
  show R=_
  rw [←hR,←hof];exact recC_of k l
 rw [hof] at hfk
 rw [hR]
 have HFK:=Lib.hid hfk
 clear hl x1 hb1 hE hnd hfk hR
 go_enter Tryd.func14,Tryd.ntmps14
 go_wp2_with (fail)
 clear hW1 l0
 refine HFK.out.mono ?_
 rintro r w2 ⟨vf,rfl,hfo,hb2⟩
 have z2:=hb2.size
 have X1b:=Lib.hid (X1.out.below hb2 (by omega))
 have HB2:=Lib.hid (HB1.out.trans (hb2.mono (by omega)))
 have HE2:=Lib.hid (HE1.out.below hb2)
 clear hb2
 cases of with
 |none=>
  have HRE:Hid (R=70):=HR.out
  rcases hfo with ⟨_,rfl⟩|⟨h,_⟩
  ·go_wp2
   go_ret
   exact ⟨pint HRE.out.symm,HB2.out⟩
  ·exact absurd rfl h
 |some fs=>
  have HRR:Hid (R=if l.length≠fs.length then 71 else if fieldsC (readF 3) fs l≠0 then fieldsC (readF 3) fs l else if 32<depthT (packF 3 k l) then 26 else 0):=HR.out
  have hfo':FsOwn W1.heap.size w2.heap.size w2 vf fs:=hfo
  obtain ⟨fp,fc,rfl,hu⟩:=hfo'.view
  have HFO:Hid (FsOwn W1.heap.size w2.heap.size w2 (.slice fp fs.length fc) fs):=hfo'
  have hfl:=fieldsT_len HOF.out
  obtain ⟨m,hm⟩:∃ m,fs.length=m:=⟨_,rfl⟩
  obtain ⟨g,hg⟩:∃ g,l.length=g:=⟨_,rfl⟩
  have Hm:=Lib.hid hm
  have Hg:=Lib.hid hg
  have hgl:g≤900000000:=by
   have h1:=nodesL_len l
   have:=HND.out
   omega
  simp only [Option.isSome_some]
  rw [hm] at HFO hfl ⊢
  rw [hg] at X1 X1b HL
  have l2:=wload_slice (X1b.out.cell (j:=1) rfl)
  clear hfo hfo' hu hm hg HR
  by_cases hne:g=m
  case neg=>
   have HRE:Hid (R=71):=HRR.out.trans (if_pos (by rw [Hm.out,Hg.out];exact hne))
   have hnb:((g:Int)!=(m:Int))=true:=by simp;omega
   clear hne
   go_wp2
   go_ret
   exact ⟨pint HRE.out.symm,HB2.out⟩
  subst hne
  have HR2:=Lib.hid (HRR.out.trans (if_neg (by rw [Hm.out,Hg.out];simp)))
  go_wp2
  clear l2
  go_loopw [27] (fun iv wr=>∃ j:Nat,iv= .int .i64 j∧j≤g∧Hid (fieldsC (readF 3) fs l=fieldsC (readF 3) (fs.drop j) (l.drop j))∧Hid (Below w2.heap.size w2 wr)) (fun iv _=>g-(intOf iv).toNat)
  case atStart=>exact ⟨0,rfl,Nat.zero_le _,(by show fieldsC _ _ _=_;simp),Below.refl _ _⟩
  case round=>
   obtain ⟨j,rfl,hj,HJ,HBR⟩:=hrel
   by_cases hltj:j<g
   ·obtain ⟨x,hx⟩:∃ x,l[j]? =some x:=⟨_,List.getElem?_eq_getElem (by rw [Hg.out];exact hltj)⟩
    obtain ⟨f,hf⟩:∃ f,fs[j]? =some f:=⟨_,List.getElem?_eq_getElem (by rw [Hm.out];exact hltj)⟩
    cases N with
    |zero=>exact HL.out.elim
    |succ N=>
    rcases HL.out with ⟨h0,_⟩|⟨b,off,c',hp,hbB,_,hel⟩
    ·exfalso;have:=Hg.out;rw [h0] at this;simp at this;omega
    rw [Hg.out] at hp
    cases hp
    obtain ⟨xf,xlv,xat,xl⟩:=hel j x hx
    obtain ⟨xq,xd,rfl⟩:=xl.slice
    have hbw:Below B w wr:=(HB2.out.trans (HBR.out.mono (by have:=HB2.out.size;omega))).mono hB
    obtain ⟨q1,d1,e1,hv⟩:=(HFO.out.below HBR.out).view
    obtain ⟨fb,foff,kv,rfl,hfb,⟨a0,a1,a2,a3,a4,a5,a6,a7,a8⟩,hkv⟩:=hv j f hf
    simp only [Value.slice.injEq] at e1
    obtain ⟨rfl, -, -⟩:=e1
    obtain ⟨kp,kc,rfl,hku⟩:=hkv.view
    have hcf:Cells wr fb (foff+j*9) (fcell f (.slice kp f.kinds.length kc)):=fun j u hu=>by
     match j,hu with
     |0,hu=>cases hu;exact a0
     |1,hu=>cases hu;exact a1
     |2,hu=>cases hu;exact a2
     |3,hu=>cases hu;exact a3
     |4,hu=>cases hu;exact a4
     |5,hu=>cases hu;exact a5
     |6,hu=>cases hu;exact a6
     |7,hu=>cases hu;exact a7
     |8,hu=>cases hu;exact a8
     |j+9,hu=>simp [fcell] at hu
    have le:=wload_value (at5_cells (xat.below hbw hbB))
    have hj0:(0:Int)≤(j:Int):=by omega
    have hj1:(j:Int)<(g:Int):=by omega
    obtain ⟨Wa,hWa⟩:∃ Wa,wr.alloc (.cells #[.int .i64 0,.int .u64 0,.string ⟨#[]⟩,.slice none 0 0,.int .i64 0] 26)=Wa:=⟨_,rfl⟩
    obtain ⟨xa,hza,hba⟩:=one_box (cs:=zeroT.cells (.slice none 0 0)) hWa
    obtain ⟨Wb,hst,xb,hbb,hzb⟩:=val_box xa rfl x xq x.list.length xd
    have hab:Below wr.heap.size wr Wb:=hba.trans hbb
    have HAB:=Lib.hid hab
    have hnx:nodes x≤nodesL l:=nodesL_mem (List.mem_of_getElem? hx)
    have hkl:f.kinds.length≤1000:=by
     obtain ⟨e,he,_,h2⟩:=fieldsT_mem HOF.out
     have:=(tab_len e he).2 f (by rw [h2];exact List.mem_of_getElem? hf)
     omega
    have hzr:=HBR.out.size
    have hzw:=HB2.out.size
    have HLF:Hid (∀ v,Below Wb.heap.size Wb v→(Instr.loadAt 50 (.pointer (some ⟨fb,foff+j*9,none⟩))).run Tryd.prog v= .ok (fagg f (.slice kp f.kinds.length kc)) v∧(Instr.loadAt 26 (.pointer (some ⟨wr.heap.size,0,none⟩))).run Tryd.prog v= .ok (x.agg (.slice xq x.list.length xd)) v):=fun v h=>by
     have hc:Cells v fb (foff+j*9) (fcell f (.slice kp f.kinds.length kc)):=fun j u hu=>(h.cell (p:=⟨fb,_,none⟩) (by show fb<Wb.heap.size;omega)).trans ((hab.cell (p:=⟨fb,_,none⟩) hfb).trans (hcf j u hu))
     exact ⟨pload_field hc,wload_value (xb.below h (by omega)).1⟩
    have HCK:Hid (∀ v,Below Wb.heap.size Wb v→Calls Tryd.prog 26 #[fagg f (.slice kp f.kinds.length kc),x.agg (.slice xq x.list.length xd)] v fun r w'=>r= .returned (.int .i64 (fieldC (readF 3) f x))∧Below v.heap.size v w'):=fun v h=>
     fcheck_any (B:=B) (N:=N) (readC_any 3) f (.slice kp f.kinds.length kc) x (.slice xq x.list.length xd) v (((HE2.out.below HBR.out).below hab).below h) ((hkv.below hab).below h) hkl xf (((xl.below hbw).below (hab.mono (by omega))).below (h.mono (by omega))) (by have:=h.size;omega) (fun h1 h2=>Nat.lt_of_lt_of_le (wanted_rk HOF.out (List.mem_of_getElem? hf) h1 h2) (rk_le k)) (Nat.le_trans (Nat.mul_le_mul_right _ (Nat.add_le_add_right hnx 13)) HND.out)
    have HJ2:=Lib.hid (HJ.out.trans (fieldsC_drop hf hx))
    obtain ⟨E,hE⟩:∃ E,fieldC (readF 3) f x=E:=⟨_,rfl⟩
    rw [hE] at HCK HJ2
    clear hel hx hf xat xl hv hkv hku a0 a1 a2 a3 a4 a5 a6 a7 a8 hcf xa hba xb hbb hab hnx hkl hE hbw
    go_wp2
    go_region_held3 (fun v=>(Instr.loadAt 50 (.pointer (some ⟨fb,foff+j*9,none⟩))).run Tryd.prog v= .ok (fagg f (.slice kp f.kinds.length kc)) v∧(Instr.loadAt 26 (.pointer (some ⟨wr.heap.size,0,none⟩))).run Tryd.prog v= .ok (x.agg (.slice xq x.list.length xd)) v)
     (first
       |with_reducible exact HLF.out _ hb5
       |with_reducible exact HLF.out _ (Below.refl _ _).drew
       |with_reducible exact HLF.out _ (Below.refl _ _))
     ((go_at_call 26;refine (HCK.out _ (Below.refl _ _).drew).mono ?_;rintro r V ⟨rfl,hb5'⟩;have hb5:Below Wb.heap.size Wb V:=(Below.refl _ _).drew.trans hb5';clear hb5'))
    have HBV:Hid (Below w2.heap.size w2 V):=HBR.out.trans ((HAB.out.trans (hb5.mono HAB.out.size)).mono (by omega))
    clear hb5
    by_cases hE0:E=0
    ·subst hE0
     have HJ3:=Lib.hid (HJ2.out.trans (if_neg (by simp)))
     go_wp2
     go_roundw
     case rel=>exact ⟨j+1,by go_num,by omega,HJ3.out,HBV.out⟩
     case measure=>simp [intOf];omega
    ·have hEb:(E !=0)=true:=by simp [hE0]
     have HJ3:=Lib.hid (HJ2.out.trans (if_pos hE0))
     have HRE:Hid (R=E):=HR2.out.trans ((if_pos (by rw [HJ3.out];exact hE0)).trans HJ3.out)
     clear hE0
     go_wp2
     go_ret
     exact ⟨pint HRE.out.symm,HB2.out.trans (HBV.out.mono (by have:=HB2.out.size;omega))⟩
   ·obtain rfl:j=g:=by omega
    have HJ0:Hid (fieldsC (readF 3) fs l=0):=by
     show _=_
     rw [HJ.out,List.drop_eq_nil_of_le (by rw [Hm.out];omega)];rfl
    have HR3:=Lib.hid (HR2.out.trans (if_neg (by rw [HJ0.out];simp)))
    have hzr:=HBR.out.size
    have hzw:=HB2.out.size
    have lr:=pload_rec (X1b.out.below HBR.out (by omega))
    have HPC:=Lib.hid (pack_any 3 B N k fs l (.slice p j c) wr (HE2.out.below HBR.out) HOF.out (by rw [Hg.out,Hm.out]) (HL.out.below ((HB2.out.trans (HBR.out.mono (by omega))).mono hB)) (by omega) (rk_le k) HND.out (fun i f v hf hv=>if h:v.kind=0 then .inl h else .inr (.inr ((fields_ready HJ0.out i f v hf hv).2 h).1)))
    go_wp2_with (fail)
    refine HPC.out.mono ?_
    rintro r w5 ⟨lv5,us5,rfl,ho5,hbk5,hap5,hb5⟩
    obtain ⟨q5,c5,rfl⟩:=ho5.slice
    have HDP:=Lib.hid (depth_any (N:=LV) (packF 3 k l) (.slice q5 (packF 3 k l).list.length c5) w5 (packV_fine _ _) ho5.lat (by have h1:nodes (packF 3 k l)≤2*nodesL l+3:=pack_nodes2 (mild2F 3) k l;have:=HND.out;omega))
    have HB5:=Lib.hid (HB2.out.trans ((HBR.out.trans (hb5.mono (by omega))).mono (by omega)))
    clear ho5 hbk5 hap5
    obtain ⟨D,hD⟩:∃ D,depthT (packF 3 k l)=D:=⟨_,rfl⟩
    rw [hD] at HDP HR3
    clear hD hb5
    go_wp2_with (fail)
    refine HDP.out.mono ?_
    rintro r w6 ⟨rfl,hk6⟩
    have HB6:=Lib.hid (HB5.out.trans (hk6.below.mono (by have:=HB5.out.size;omega)))
    clear hk6
    by_cases hd:32<D
    ·have HRE:Hid (R=26):=HR3.out.trans (if_pos hd)
     have hdb:decide ((D:Int)>32)=true:=by simp;omega
     go_wp2
     go_ret
     exact ⟨pint HRE.out.symm,HB6.out⟩
    ·have HRE:Hid (R=0):=HR3.out.trans (if_neg hd)
     have hdb:decide ((D:Int)>32)=false:=by simp;omega
     go_wp2
     go_ret
     exact ⟨pint HRE.out.symm,HB6.out⟩
theorem recC_zero {k:Int} {l:List VT} (h:recC (readF 3) (packF 3) k l=0):∃ fs,fieldsT k=some fs∧l.length=fs.length∧fieldsC (readF 3) fs l=0:=by
 rw [recC_of] at h
 unfold recOf at h
 cases hf:fieldsT k with
 |none=>rw [hf] at h;simp at h
 |some fs=>
  rw [hf] at h
  simp only at h
  refine ⟨fs,rfl,?_⟩
  split at h
  ·omega
  ·rename_i h1
   split at h
   ·rename_i h2;exact absurd h h2
   ·rename_i h2;exact ⟨by omega,by omega⟩
def packAns (k:Int) (l:List VT) (C:Int):Except Int VT:=if C=0 then .ok (packF 3 k l) else .error C
theorem recPack_any {N B:Nat} (k:Int) (l:List VT) (lv:Value) (w:World) (hE:Env w) (hl:LAt B w N lv l) (hB:B≤w.heap.size) (hnd:(nodesL l+13)*2^3≤800000000):
 Calls Tryd.prog 15 #[.agg #[.int .i64 k,lv]] w fun r w'=>ReadAns (packAns k l (recC (readF 3) (packF 3) k l)) w r w':=by
 obtain ⟨p,c,rfl⟩:=hl.slice
 obtain ⟨W1,hW1⟩:∃ W1,(w.alloc (.cells #[.int .i64 k,.slice p l.length c] 31)).alloc (.cells #[.int .i64 0,.int .u64 0,.string ⟨#[]⟩,.slice none 0 0,.int .i64 0] 26)=W1:=⟨_,rfl⟩
 obtain ⟨x1,x2,hz1,hb1⟩:=two_boxes (cs:=[.int .i64 k,.slice p l.length c]) (ds:=zeroT.cells (.slice none 0 0)) hW1
 have l0:=pload_rec x1
 have HC:=Lib.hid (recCheck_any (N:=N) (B:=B) k l (.slice p l.length c) W1 (hE.below hb1) (hl.below (hb1.mono hB)) (by omega) hnd)
 have X1:=Lib.hid x1
 have X2:=Lib.hid x2
 have HB1:=Lib.hid hb1
 have HE1:=Lib.hid (hE.below hb1)
 have HL1:Hid (LAt B W1 N (.slice p l.length c) l):=hl.below (hb1.mono hB)
 have HND:=Lib.hid hnd
 obtain ⟨C,hC⟩:∃ C,recC (readF 3) (packF 3) k l=C:=⟨_,rfl⟩
 have HCC:=Lib.hid hC
 rw [hC] at HC ⊢
 clear hl x1 x2 hb1 hE hnd hC
 go_enter Tryd.func15,Tryd.ntmps15
 go_wp2_with (fail)
 clear hW1 l0
 refine HC.out.mono ?_
 rintro r w2 ⟨rfl,hb2⟩
 have z2:W1.heap.size≤w2.heap.size:=hb2.size
 have X2b:=X2.out.below hb2 (by omega)
 have HB2:=Lib.hid (HB1.out.trans (hb2.mono (by omega)))
 by_cases hC0:C=0
 ·subst hC0
  obtain ⟨fs,hfs,hll,hfc⟩:=recC_zero HCC.out
  have l5:=pload_rec (X1.out.below hb2 (by omega))
  have HPC:=Lib.hid (pack_any 3 B N k fs l (.slice p l.length c) w2 (HE1.out.below hb2) hfs hll (HL1.out.below (hb2.mono (by omega))) (by omega) (rk_le k) HND.out (fun i f v hf hv=>if h:v.kind=0 then .inl h else .inr (.inr ((fields_ready hfc i f v hf hv).2 h).1)))
  have X2c:=Lib.hid X2b
  clear hfs hll hfc hb2 X2b
  go_wp2_with (fail)
  refine HPC.out.mono ?_
  rintro r w6 ⟨lv6,us6,rfl,ho6,hbk6,hap6,hb6⟩
  obtain ⟨q6,c6,rfl⟩:=ho6.slice
  have z6:w2.heap.size≤w6.heap.size:=hb6.size
  obtain ⟨X7,hs7,hl7,hb7,hz7,hsame⟩:=val_store (X2c.out.below hb6 (by omega)) rfl (packF 3 k l) q6 (packF 3 k l).list.length c6
  have HLV:=Lib.hid hl7
  have HQ:Hid (ReadAns (packAns k l 0) w (.returned (.tuple #[(packF 3 k l).agg (.slice q6 (packF 3 k l).list.length c6),.int .i64 0])) X7):=by
   show ReadAns (.ok (packF 3 k l)) w _ X7
   refine ⟨(HB2.out.trans (hb6.mono (by omega))).trans (hb7.mono (by omega)),_,us6,rfl,packV_fine _ _,ho6.heap (by omega) fun u hu b hb=>hsame b (by have:=hbk6 u hu b hb;omega),?_,hap6⟩
   rw [hz7]
   exact hbk6.mono (by omega) (Nat.le_refl _)
  clear hl7 hb7 hz7 hsame ho6 hbk6 hap6 hb6
  go_wp2
  exact bodyPost_ret_by (results_cell_tmp2 rfl rfl HLV.out rfl) rfl HQ.out
 ·have hcb:(C !=0)=true:=by simp [hC0]
  obtain ⟨X6,hs6,hl6,hb6,hz6,_⟩:=val_store X2b rfl zeroT none 0 0
  replace hs6:(Instr.storeAt 26 (.pointer (some ⟨w.heap.size+1,0,none⟩)) (.agg #[.int .i64 0,.int .u64 0,.string ⟨#[]⟩,.slice none 0 0,.int .i64 0])).run Tryd.prog w2= .ok () X6:=hs6
  have HLV:=Lib.hid hl6
  have HQ:Hid (ReadAns (packAns k l C) w (.returned (.tuple #[zeroT.agg (.slice none 0 0),.int .i64 C])) X6):=by
   show ReadAns (packAns k l C) w _ X6
   unfold packAns
   rw [if_neg hC0]
   exact ⟨HB2.out.trans (hb6.mono (by omega)),rfl⟩
  clear hl6 hb6 hz6 hC0 hb2 X2b
  go_wp2
  exact bodyPost_ret_by (results_cell_tmp2 rfl rfl HLV.out rfl) rfl HQ.out
def unAns (t:VT) (C:Int):Except (Nat×Int) (Int×List VT):=if C=0 then unpackF 3 t else .error (0,C)
theorem recUnpack_any {N B:Nat} (t:VT) (lv:Value) (w:World) (hE:Env w) (hft:t.Fine) (hl:LAt B w N lv t.list) (hB:B≤w.heap.size) (hnd:(nodes t+13)*2^3≤800000000):
 Calls Tryd.prog 13 #[t.agg lv] w fun r w'=>UnAns (unAns t (checkT t 1)) w r w':=by
 obtain ⟨p,c,rfl⟩:=hl.slice
 obtain ⟨W1,hW1⟩:∃ W1,(w.alloc (.cells #[.int .i64 t.kind,.int .u64 t.num,.string t.text,.slice p t.list.length c,.int .i64 t.elem] 26)).alloc (.cells #[.int .i64 0,.slice none 0 0] 31)=W1:=⟨_,rfl⟩
 obtain ⟨x1,x2,hz1,hb1⟩:=two_boxes (cs:=t.cells (.slice p t.list.length c)) (ds:=[.int .i64 0,.slice none 0 0]) hW1
 have l0:=wload_value x1.1
 have hE1:=hE.below hb1
 have HC:=Lib.hid (check_any (N:=N) t (.slice p t.list.length c) W1 hE1.2 hft ((hl.below (hb1.mono hB)).up (by omega)) (by omega))
 have X1:=Lib.hid x1
 have X2:=Lib.hid x2
 have HB1:=Lib.hid hb1
 have HE1:=Lib.hid hE1
 have HF:=Lib.hid hft
 have HL1:Hid (LAt B W1 N (.slice p t.list.length c) t.list):=hl.below (hb1.mono hB)
 have HND:=Lib.hid hnd
 obtain ⟨C,hC⟩:∃ C,checkT t 1=C:=⟨_,rfl⟩
 rw [hC] at HC ⊢
 clear hl x1 x2 hb1 hE hE1 hnd hC hft
 go_enter Tryd.func13,Tryd.ntmps13
 go_wp2_with (fail)
 clear hW1 l0
 refine HC.out.mono ?_
 rintro r w2 ⟨rfl,hk2⟩
 have hb2:=hk2.below
 have z2:W1.heap.size≤w2.heap.size:=hb2.size
 have X2b:=X2.out.below hb2 (by omega)
 have HB2:=Lib.hid (HB1.out.trans (hb2.mono (by omega)))
 clear hk2
 by_cases hC0:C=0
 ·subst hC0
  have l5:=wload_value (X1.out.below hb2 (by omega)).1
  have HU:=Lib.hid (unpack_any 3 B N t (.slice p t.list.length c) w2 (HE1.out.below hb2) HF.out (HL1.out.below (hb2.mono (by omega))) (by omega) (rkO_le _) HND.out)
  have X2c:=Lib.hid X2b
  clear hb2 X2b
  obtain ⟨a,ha⟩:∃ a,unpackF 3 t=a:=⟨_,rfl⟩
  have HR:Hid (unAns t 0=a):=(if_pos rfl).trans ha
  rw [ha] at HU
  clear ha
  go_wp2_with (fail)
  refine HU.out.mono ?_
  rintro r w6 ⟨hb6,hans⟩
  have z6:w2.heap.size≤w6.heap.size:=hb6.size
  cases a with
  |error q=>
   obtain ⟨i,e⟩:=q
   subst hans
   obtain ⟨X6,hs6,hl6,_,hb7,hz6,_⟩:=rec_store (X2c.out.below hb6 (by omega)) rfl 0 none 0 0
   have HLV:=Lib.hid hl6
   have HQ:Hid (UnAns (unAns t 0) w (.returned (.tuple #[.agg #[.int .i64 0,.slice none 0 0],.int .i64 i,.int .i64 e])) X6):=by
    show UnAns (unAns t 0) w _ X6
    rw [HR.out]
    exact ⟨(HB2.out.trans (hb6.mono (by omega))).trans (hb7.mono (by omega)),rfl⟩
   clear hl6 hb7 hz6 hb6
   go_wp2
   exact bodyPost_ret_by (results_cell_tmp3 rfl rfl HLV.out rfl rfl) rfl HQ.out
  |ok q=>
   obtain ⟨k,l⟩:=q
   obtain ⟨lv6,us6,rfl,ho6,hbk6,hap6⟩:=hans
   obtain ⟨q6,c6,rfl⟩:=ho6.slice
   obtain ⟨X6,hs6,hl6,_,hb7,hz6,hsame⟩:=rec_store (X2c.out.below hb6 (by omega)) rfl k q6 l.length c6
   have HLV:=Lib.hid hl6
   have HQ:Hid (UnAns (unAns t 0) w (.returned (.tuple #[.agg #[.int .i64 k,.slice q6 l.length c6],.int .i64 0,.int .i64 0])) X6):=by
    show UnAns (unAns t 0) w _ X6
    rw [HR.out]
    refine ⟨(HB2.out.trans (hb6.mono (by omega))).trans (hb7.mono (by omega)),_,us6,rfl,ho6.heap (by omega) fun u hu b hb=>hsame b (by have:=hbk6 u hu b hb;omega),?_,hap6⟩
    rw [hz6]
    exact hbk6.mono (by omega) (Nat.le_refl _)
   clear hl6 hb7 hz6 hsame ho6 hbk6 hap6 hb6
   go_wp2
   exact bodyPost_ret_by (results_cell_tmp3 rfl rfl HLV.out rfl rfl) rfl HQ.out
 ·have hcb:(C !=0)=true:=by simp [hC0]
  obtain ⟨X6,hs6,hl6,_,hb6,hz6,_⟩:=rec_store X2b rfl 0 none 0 0
  have HLV:=Lib.hid hl6
  have HQ:Hid (UnAns (unAns t C) w (.returned (.tuple #[.agg #[.int .i64 0,.slice none 0 0],.int .i64 0,.int .i64 C])) X6):=by
   show UnAns (unAns t C) w _ X6
   unfold unAns
   rw [if_neg hC0]
   exact ⟨HB2.out.trans (hb6.mono (by omega)),rfl⟩
  clear hl6 hb6 hz6 hC0 hb2 X2b
  go_wp2
  exact bodyPost_ret_by (results_cell_tmp3 rfl rfl HLV.out rfl rfl) rfl HQ.out
end Go.Proofs.YtfoiaiblggapeaaDoor.Va
namespace Go.Proofs.YtfoiaiblggapeaaDoor.Va
open Go Go.RowKit Nu
theorem greatAll_any {N B:Nat} {l:List VT} {lv:Value} {w:World} (hl:LAt B w N lv l) (hB:B≤w.heap.size):
 Calls Tryd.prog 12 #[lv] w fun r w'=>r= .returned (.bool (decide (100000<wts l 0)))∧Below w.heap.size w w':=by
 have HL:=Lib.hid hl
 obtain ⟨p,c,rfl⟩:=hl.slice
 have hlen:l.length≤9223372036854775807:=hl.len
 clear hl
 obtain ⟨n,hn⟩:∃ n,l.length=n:=⟨_,rfl⟩
 have Hn:=Lib.hid hn
 rw [hn] at hlen ⊢
 clear hn
 go_enter Tryd.func12,Tryd.ntmps12
 go_wp2
 go_loopw [3,4] (fun v i wr=>∃ (j q:Nat),v= .int .i64 q∧i= .int .i64 j∧j≤n∧Hid (wts (l.drop j) q=wts l 0)∧Hid (Below w.heap.size w wr)) (fun _ i _=>n-(intOf i).toNat)
 case atStart=>exact ⟨0,0,rfl,rfl,Nat.zero_le _,rfl,Below.refl _ _⟩
 case round=>
  obtain ⟨j,q,rfl,rfl,hj,HQ,hb⟩:=hrel
  have hend:∀ (q':Nat),¬j<n∨100000<q→(q:Nat)=wts l 0:=fun _ h=>by
   have:=HQ.out
   rcases h with h|h
   ·obtain rfl:j=n:=by omega
    rw [←Hn.out,wts_end] at this;omega
   ·rw [wts_big _ h] at this;omega
  have hE:=Lib.hid hend;clear hend
  by_cases hlt:j<n
  ·have hlt':(j:Int)<(n:Int):=by omega
   by_cases hq:q≤100000
   ·cases N with
    |zero=>exact HL.out.elim
    |succ N=>
     rcases HL.out with ⟨h0,_⟩|⟨b,off,c',hp,hbB,_,hel⟩
     ·rw [←Hn.out,h0] at hlt;exact absurd hlt (by simp)
     rw [Hn.out] at hp
     cases hp
     obtain ⟨t,ht⟩:∃ t,l[j]? =some t:=⟨_,List.getElem?_eq_getElem (by rw [Hn.out];exact hlt)⟩
     obtain ⟨hf,lv,hat,hl⟩:=hel j t ht
     have hbw:Below B w wr:=hb.out.mono hB
     obtain ⟨e0,e1,e2,e3,e4⟩:=hat.below hbw hbB
     have hst:=Lib.hid (wts_step ht hq)
     have HC:Hid (Calls Tryd.prog 21 #[.agg #[.int .i64 t.kind,.int .u64 t.num,.string t.text,lv,.int .i64 t.elem],.int .i64 q] wr fun r w'=>r= .returned (.int .i64 (wt t q:Nat))∧Below wr.heap.size wr w'):=
      weigh_any (N:=N) (B:=B) (t:=t) (n:=q) ⟨hf,lv,rfl,hl.below hbw⟩ (by have:=hb.out.size;omega) hq
     clear hel hl hat ht
     go_wp2_with (go_at_call 21;refine HC.out.mono ?_;rintro r w2 ⟨rfl,hb2⟩)
     go_roundw
     case rel=>exact ⟨j+1,_,rfl,by go_num,by omega,by rw [←hst.out];exact HQ.out,hb.out.trans (hb2.mono hb.out.size)⟩
     case measure=>simp [intOf];omega
   ·have hq':¬((q:Int)≤100000):=by omega
    go_wp2
    go_ret
    refine ⟨ret_bool ?_,hb.out⟩
    rw [←hE.out q (.inr (by omega)),Bool.eq_iff_iff];simp<;>omega
  ·have hlt':¬((j:Int)<(n:Int)):=by omega
   go_wp2
   all_goals
    go_ret
    refine ⟨ret_bool ?_,hb.out⟩
    rw [←hE.out q (.inl hlt),Bool.eq_iff_iff];simp<;>omega
end Go.Proofs.YtfoiaiblggapeaaDoor.Va
namespace Go.Proofs.YtfoiaiblggapeaaDoor.Va
open Go Go.RowKit Nu Go.Proofs.YtfoiaiblggapeaaDoor.Nm
theorem lit_at (B:Nat) (w:World) (N:Nat) (k m:Int) (s:ByteArray) (h0:0≤m) (h1:m≤18446744073709551615) (hk0:0≤k) (hk1:k≤100) (hs:s.size≤9223372036854775807):
 VAt B w (N+1) (.agg #[.int .i64 k,.int .u64 m,.string s,.slice none 0 0,.int .i64 0]) (.mk k m s 0 []):=
 ⟨⟨by show _≤k;omega,by show k≤_;omega,h0,h1,by show _≤(0:Int);omega,by show (0:Int)≤_;omega,hs⟩,_,rfl,.inl ⟨rfl,_,_,rfl⟩⟩
theorem hit_of_eq {d:VT} {q:Int} {X Y:Bool} (hn:nameL q≠[]) (hx:eqT d (.mk 5 q empt 0 [])=X) (hy:eqT d (.mk 20 0 (nameB q) 0 [])=Y):hitR d q=(X||Y):=by
 unfold hitR
 rw [hx,hy]
 have:nameL q≠[]:=hn
 cases hh:nameL q with
 |nil=>exact absurd hh hn
 |cons a l=>rfl
theorem hit_no {d:VT} {q:Int} (hn:nameL q=[]):hitR d q=false:=by
 unfold hitR;rw [hn];rfl
theorem none_yet {d:VT} {q:Int} (h:∀ i,1≤i→i<q→hitR d i=false) (hq:hitR d q=false):∀ i,1≤i→i<q+1→hitR d i=false:=fun i h1 h2=>by
 by_cases hi:i=q
 ·rw [hi];exact hq
 ·exact h i h1 (by omega)
theorem name_size (q:Int):(nameB q).size≤9223372036854775807:=by
 have:(nameL q).length≤100:=by
  unfold nameL
  split
  ·rename_i s hs
   obtain ⟨r,hr,hx⟩:=List.exists_of_findSome?_eq_some hs
   have h1:=hit_of hx
   obtain ⟨s',hs',hg⟩:=hit_some h1.1 h1.2
   rw [hx] at hs'
   cases hs'
   have:=rows_len r hr s (List.mem_of_getElem? hg)
   have hf:(form q).length≤6:=by unfold form;(repeat' split)<;>decide
   simp [lng];omega
  ·simp
 have h2:(nameB q).size=(nameL q).length:=by rw [Lib.size_eq];rfl
 omega
theorem rkind_raw {N B:Nat} {k m:Int} {s:ByteArray} {e:Int} {l:List VT} {lv:Value} {w:World} (hl:LAt B w N lv l) (hf:(VT.mk k m s e l).Fine) (hB:B≤w.heap.size):
 Calls Tryd.prog 11 #[.agg #[.int .i64 k,.int .u64 m,.string s,lv,.int .i64 e]] w fun r w'=>r= .returned (kindAns (kindOf (.mk k m s e l)))∧Below w.heap.size w w':=by
 obtain ⟨p,c,rfl⟩:=hl.slice
 have hlen:l.length≤9223372036854775807:=hl.len
 by_cases hd:k=24∧l.length=2
 ·obtain ⟨rfl,hl2⟩:=hd
  obtain ⟨d,x,rfl⟩:∃ d x,l=[d,x]:=by
   match l,hl2 with
   |[d,x],_=>exact ⟨d,x,rfl⟩
  cases N with
  |zero=>exact hl.elim
  |succ N=>
   rcases hl with ⟨h0,_⟩|⟨b,off,c',hp,hbB,_,hel⟩
   ·cases h0
   cases hp
   obtain ⟨hfd,lv,hat,hld⟩:=hel 0 d rfl
   simp only [Nat.zero_mul,Nat.add_zero] at hat
   have hans:kindOf (.mk 24 m s e [d,x])=findR d 1 199:=by simp [kindOf,VT.kind,VT.list,kindD]
   rw [hans]
   have hb0:b<w.heap.size:=by omega
   clear hel hans hf hlen hl2
   rw [show ([d,x]:List VT).length=2 from rfl]
   obtain ⟨K,hK⟩:∃ K,findR d 1 199=K:=⟨_,rfl⟩
   rw [hK]
   have HK:=Lib.hid hK
   clear hK
   go_enter Tryd.func11,Tryd.ntmps11
   go_wp2
   obtain ⟨W1,hW1⟩:∃ W1,w.alloc (.cells #[.int .i64 24,.int .u64 m,.string s,.slice (some ⟨b,off,none⟩) 2 c,.int .i64 e] 26)=W1:=⟨_,rfl⟩
   have hz1:W1.heap.size=w.heap.size+1:=by rw [←hW1];simp
   have hc3:W1.cell? ⟨w.heap.size,3,none⟩=some (.slice (some ⟨b,off,none⟩) 2 c):=by rw [←hW1];simp
   have hb1:Below w.heap.size w W1:=by rw [←hW1];exact (Below.refl _ _).alloc (Nat.le_refl _) _
   rw [hW1]
   clear hW1
   have HF:Hid (∀ W,Below (w.heap.size+1) W1 W→(W.cell? ⟨w.heap.size,3,none⟩=some (.slice (some ⟨b,off,none⟩) 2 c)∧W.cell? ⟨b,off,none⟩=some (.int .i64 d.kind)∧W.cell? ⟨b,off+1,none⟩=some (.int .u64 d.num)∧W.cell? ⟨b,off+2,none⟩=some (.string d.text)∧W.cell? ⟨b,off+3,none⟩=some lv∧W.cell? ⟨b,off+4,none⟩=some (.int .i64 d.elem))∧VAt B W (N+1) (.agg #[.int .i64 d.kind,.int .u64 d.num,.string d.text,lv,.int .i64 d.elem]) d∧B≤W.heap.size):=fun W h=>by
    have hw:Below B w W:=(hb1.trans (h.mono (by omega))).mono hB
    obtain ⟨e0,e1,e2,e3,e4⟩:=hat.below hw hbB
    exact ⟨⟨(h.cell (p:=⟨w.heap.size,3,none⟩) (by simp)).trans hc3,e0,e1,e2,e3,e4⟩,⟨hfd,lv,rfl,(hld.below hw).mono (by omega)⟩,by have:=h.size;omega⟩
   clear hat hld hc3
   go_loopw [4] (fun i wr=>∃ (q:Int),i= .int .i64 q∧1≤q∧q≤200∧Hid (∀ i,1≤i→i<q→hitR d i=false)∧Below (w.heap.size+1) W1 wr) (fun i _=>(200-intOf i).toNat)
   case atStart=>exact ⟨1,rfl,by omega,by omega,fun i h1 h2=>by omega,Below.refl _ _⟩
   case round=>
    obtain ⟨q,rfl,hq0,hq1,HQ,hb⟩:=hrel
    have HBW:Hid (Below w.heap.size w wr):=hb1.trans (hb.mono (by omega))
    have hzw:w.heap.size+1≤wr.heap.size:=by have:=hb.size;omega
    have HB:=Lib.hid hb
    clear hb
    by_cases hlt:q<200
    ·by_cases hne:nameL q=[]
     ·have hn1:(nameB q).toList=[]:=by rw [nameB_toList,hne]
      have HN:=Lib.hid (hit_no (d:=d) hne)
      clear hne
      go_wp2_with (go_at_call 23;refine (refName_any q _).mono ?_;rintro r w2 ⟨rfl,hb2⟩)
      go_roundw
      case rel=>exact ⟨q+1,rfl,by omega,by omega,none_yet HQ.out HN.out,HB.out.trans (hb2.mono (by omega))⟩
      case measure=>simp [intOf];omega
     ·have hn1:(!(nameB q).toList.isEmpty)=true:=by rw [nameB_toList];simpa using hne
      obtain ⟨X,hX⟩:∃ X,eqT d (.mk 5 q empt 0 [])=X:=⟨_,rfl⟩
      obtain ⟨Y,hY⟩:∃ Y,eqT d (.mk 20 0 (nameB q) 0 [])=Y:=⟨_,rfl⟩
      have HN:=Lib.hid (hit_of_eq hne hX hY)
      have HX:=Lib.hid hX
      have HY:=Lib.hid hY
      have hsz:=name_size q
      clear hne hX hY
      go_wp2_with (go_at_call 23;refine (refName_any q _).mono ?_;rintro r w2 ⟨rfl,hb2⟩;obtain ⟨⟨d3,e0,e1,e2,e3,e4⟩,hv2,hB2⟩:=HF.out _ (HB.out.trans (hb2.mono hzw));have hv2:=Lib.hid hv2)
      refine (equal_any hv2.out (lit_at B _ N 5 q empt (by omega) (by omega) (by omega) (by omega) (by decide)) hB2).mono ?_
      rintro r w3 ⟨hr,hb3⟩
      rw [HX.out] at hr
      subst hr
      have HB3:=Lib.hid (HB.out.trans ((hb2.trans (hb3.mono hb2.size)).mono hzw))
      clear d3 e0 e1 e2 e3 e4 hv2
      obtain ⟨⟨d3,e0,e1,e2,e3,e4⟩,hv2,hB3⟩:=HF.out _ HB3.out
      have hv2:=Lib.hid hv2
      go_wp2_with (fail)
      refine (equal_any hv2.out (lit_at B _ N 20 0 (nameB q) (by omega) (by omega) (by omega) (by omega) hsz) hB3).mono ?_
      rintro r w4 ⟨hr,hb4⟩
      rw [HY.out] at hr
      subst hr
      have HB4:=Lib.hid (HB3.out.trans (hb4.mono (by have:=HB3.out.size;omega)))
      clear d3 e0 e1 e2 e3 e4 hv2
      cases X<;>cases Y
      ·go_wp2
       go_roundw
       case rel=>exact ⟨q+1,rfl,by omega,by omega,none_yet HQ.out HN.out,HB4.out⟩
       case measure=>simp [intOf];omega
      all_goals
       go_wp2
       go_ret2
       have HK2:findR d 1 199=some q:=findR_some (by omega) (by omega) HN.out HQ.out
       exact ⟨by rw [←HK.out,HK2];rfl,hb1.trans (HB4.out.mono (by omega))⟩
    ·obtain rfl:q=200:=by omega
     go_wp2
     go_ret2
     have HN:findR d 1 199=none:=findR_none fun i h1 h2=>HQ.out i h1 (by omega)
     exact ⟨by rw [←HK.out,HN];rfl,HBW.out⟩
 ·have hans:kindOf (.mk k m s e l)=none:=if_neg hd
  rw [hans]
  have HD:=Lib.hid hd
  clear hd hl
  go_enter Tryd.func11,Tryd.ntmps11
  go_wp2
  all_goals first
   |(go_ret2;exact ⟨rfl,(Below.refl _ _).alloc (Nat.le_refl _) _⟩)
   |(exfalso;exact HD.out ⟨(by assumption:k=24),len_of_bne2 (by assumption)⟩)
theorem rkind_any {N B:Nat} {d:VT} {v:Value} {w:World} (h:VAt B w N v d) (hB:B≤w.heap.size):
 Calls Tryd.prog 11 #[v] w fun r w'=>r= .returned (kindAns (kindOf d))∧Below w.heap.size w w':=by
 obtain ⟨hf,lv,rfl,hl⟩:=h
 obtain ⟨k,m,s,e,l⟩:=d
 exact rkind_raw hl hf hB
end Go.Proofs.YtfoiaiblggapeaaDoor.Va
namespace Go.Proofs.YtfoiaiblggapeaaDoor.Va
open Go Go.RowKit Go.ChangeShapes Go.WideShapes Go.Deep Go.CE Nu Go.Proofs.YtfoiaiblggapeaaDoor.Nm
noncomputable def liveE:MemoE:={f:=8,args:=[],glob:=space,val:= .bool true}
theorem live_says:liveE.says Tryd.prog 7 1000000 []=true:=by kernel_rfl
theorem live_any {w:World} {t:TypeId} (hsp:w.heap[0]? =some (.cells (Lib.asciiSpaceTab.map fun z=>Value.int .u8 z).toArray t (0,0))):
 Calls Tryd.prog 8 #[] w fun e w'=>e= .returned (.bool true)∧Below w.heap.size w w':=
 calls_entry (memo_ok mixed noCount (memo_none _ _) live_says) (lies_tab (g:=0) (by decide) hsp)
section
variable {H:Type} {enc:TypeId×Value→H} {w:World} {base:Nat} {spare:Nat→Bool} {held:Bool}
theorem open_arg {r:Reach} {b0:Nat} {v:Value} {d:DataW H} {p:List MemPlace} (hv:Value.okWide Tryd.prog w r b0 26 v) (h:DataW.Trod enc Tryd.prog w base spare held 26 v d p):∃ N t,VAt w.heap.size w N v t:=by
 obtain ⟨cs,rfl,hsz⟩:=okWide_struct underV hv
 obtain ⟨fuel,hf⟩:=h
 have hl:cs.toList.length=5:=by rw [Array.length_toList,hsz];exact cellsV
 obtain ⟨k,m,s,lv,e,n',y,_,hcs,hfine,hlist⟩:=open_value hf hl
 obtain ⟨ts,hts⟩:=open_list hlist
 refine ⟨n'+1,.mk k m s e ts,hfine ts,lv,?_,hts⟩
 have:cs= #[.int .i64 k,.int .u64 m,.string s,lv,.int .i64 e]:=Array.toList_inj.1 hcs
 rw [this];rfl
end
theorem below_trodAll {H:Type} {enc:TypeId×Value→H} {P:Program} (hl:laidOutB P=true) {W W':World} (hb:Below W.heap.size W W'):
 ∀ {ts:List TypeId} {vs:List Value} {ds:List (DataW H)} {ps:List MemPlace},(∀ t∈ts,P.readableRec t=true∧t<P.types.size)→DataW.TrodAll enc P W 0 (fun _=>true) true ts vs ds ps→(∀ x∈ps,x.block<W.heap.size)→
   DataW.TrodAll enc P W' 0 (fun b=>decide (b<W.heap.size)) true ts vs ds ps
 |[],[],[],_,_,h,_=>h
 |[],[],_::_,_,_,h,_=>h.elim
 |[],_::_,_,_,_,h,_=>h.elim
 |_::_,[],_,_,_,h,_=>h.elim
 |_::_,_::_,[],_,_,h,_=>h.elim
 |t::ts,v::vs,d::ds,ps,ht,⟨p,q,h1,h2,e⟩,hlt=>by
  subst e
  exact ⟨p,q,Below.trod hl (ht t (by simp)).1 (ht t (by simp)).2 h1 hb (fun x hx=>hlt x (List.mem_append_left _ hx)),below_trodAll hl hb (fun x hx=>ht x (List.mem_cons_of_mem _ hx)) h2 (fun x hx=>hlt x (List.mem_append_right _ hx)),rfl⟩
theorem laidOut:laidOutB Tryd.prog=true:=by kernel_rfl
end Go.Proofs.YtfoiaiblggapeaaDoor.Va
namespace Go.Proofs.YtfoiaiblggapeaaDoor.Va
open Go Go.ChangeShapes Go.WideShapes Go.ChangeAt Go.RowKit Nu Uc
noncomputable def fieldsRc:Array Field:=match Tryd.prog.underlying 31 with|some (.struct fs)=>fs|_=>#[]
theorem underRc:Tryd.prog.underlying 31=some (.struct fieldsRc):=by kernel_rfl
theorem sizeRc:fieldsRc.size=2:=by kernel_rfl
theorem cellsRc:Tryd.prog.cellsOf 31=2:=by kernel_rfl
theorem fieldsRc_at:fieldsRc.toList.map (fun f=>(f.type,f.offset,Tryd.prog.cellsOf f.type))=[(3,0,1),(24,1,1)]:=by kernel_rfl
theorem field_genRc {fs:Array Field} {L:List (TypeId×Nat×Nat)} (h:fs.toList.map (fun f=>(f.type,f.offset,Tryd.prog.cellsOf f.type))=L) (j:Nat) (t o k:Nat) (hx:L[j]? =some (t,o,k)):∃ f:Field,fs[j]? =some f∧f.type=t∧f.offset=o∧Tryd.prog.cellsOf f.type=k:=by
 rw [←h,List.getElem?_map] at hx
 rw [Array.getElem?_toList] at hx
 cases hf:fs[j]? with
 |none=>rw [hf] at hx;cases hx
 |some f=>
  rw [hf] at hx
  simp only [Option.map_some,Option.some.injEq,Prod.mk.injEq] at hx
  exact ⟨f,rfl,hx.1,hx.2.1,hx.2.2⟩
section
variable {H:Type} {enc:TypeId×Value→H} {w:World} {base:Nat} {spare:Nat→Bool} {held:Bool}
theorem open_record {cs:List Value} {n:Nat} {x:DataW H×List MemPlace} (h:DataW.trod enc Tryd.prog w base spare held n 31 cs=some x) (hl:cs.length=2):
 ∃ (k:Int) (lv:Value) (ts:List VT) (N:Nat),cs=[.int .i64 k,lv]∧ -9223372036854775808≤k∧k≤9223372036854775807∧LAt w.heap.size w N lv ts:=by
 obtain ⟨ys,n',hn',hy,hlen,hyl,hf⟩:=DataW.trod_struct underRc h
 have one:∀ (j t o k:Nat),([(3,0,1),(24,1,1)]:List (TypeId×Nat×Nat))[j]? =some (t,o,k)→∃ y,DataW.trod enc Tryd.prog w base spare held n' t ((cs.drop o).take k)=some y:=by
  intro j t o k hx
  obtain ⟨f,hj,rfl,rfl,rfl⟩:=field_genRc fieldsRc_at j t o k hx
  have hjl:j<2:=by rw [←sizeRc];exact (Array.getElem?_eq_some_iff.1 hj).1
  exact ⟨_,(hf j f hj).trans (List.getElem?_eq_getElem (by rw [hyl,sizeRc];omega))⟩
 match cs,hl with
 |[a0,a1],_=>
  obtain ⟨y0,t0⟩:=one 0 3 0 1 rfl
  obtain ⟨y1,t1⟩:=one 1 24 1 1 rfl
  obtain ⟨k,h0,_,w0⟩:=DataW.trod_int Tryd.underlying3 (show DataW.trod enc Tryd.prog w base spare held n' 3 [a0]=some y0 from t0)
  obtain ⟨ts,hts⟩:=open_list (show DataW.trod enc Tryd.prog w base spare held n' 24 [a1]=some y1 from t1)
  simp only [List.cons.injEq,and_true] at h0
  subst h0
  obtain ⟨b0,b1⟩:=wf_i64 w0
  exact ⟨k,a1,ts,_,rfl,b0,b1,hts⟩
theorem open_argR {r:Reach} {b0:Nat} {v:Value} {d:DataW H} {p:List MemPlace} (hv:Value.okWide Tryd.prog w r b0 31 v) (h:DataW.Trod enc Tryd.prog w base spare held 31 v d p):∃ k lv ts N,v= .agg #[.int .i64 k,lv]∧ -9223372036854775808≤k∧k≤9223372036854775807∧LAt w.heap.size w N lv ts:=by
 obtain ⟨cs,rfl,hsz⟩:=okWide_struct underRc hv
 obtain ⟨fuel,hf⟩:=h
 have hl:cs.toList.length=2:=by rw [Array.length_toList,hsz];exact cellsRc
 obtain ⟨k,lv,ts,N,hcs,b0,b1,hl2⟩:=open_record hf hl
 have:cs= #[.int .i64 k,lv]:=Array.toList_inj.1 hcs
 exact ⟨k,lv,ts,N,by rw [this],b0,b1,hl2⟩
end
theorem pack_small {k:Int} {l:List VT} (h:(nodesL l+13)*2^3≤800000000) (C:Int):nodes (okV (packAns k l C))≤2*nodesL l+3:=by
 unfold packAns
 split
 ·exact pack_nodes2 (mild2F 3) k l
 ·show nodes zeroT≤_
  rw [nodes_zeroT];omega
end Go.Proofs.YtfoiaiblggapeaaDoor.Va
namespace Go.Proofs.YtfoiaiblggapeaaDoor.Va
open Go Go.RowKit Nu Uc
attribute [-go_sem] Go.Instr.loadAt Go.Instr.storeAt
def recK (a:Except (Nat×Int) (Int×List VT)):Int:=match a with| .ok q=>q.1| .error _=>0
def recL (a:Except (Nat×Int) (Int×List VT)):List VT:=match a with| .ok q=>q.2| .error _=>[]
def recI (a:Except (Nat×Int) (Int×List VT)):Int:=match a with| .ok _=>0| .error q=>q.1
def recE (a:Except (Nat×Int) (Int×List VT)):Int:=match a with| .ok _=>0| .error q=>q.2
theorem UnAns.get2 {a:Except (Nat×Int) (Int×List VT)} {w w':World} {r:Ending} (h:UnAns a w r w'):Below w.heap.size w w'∧∃ q d us,r= .returned (.tuple #[.agg #[.int .i64 (recK a),.slice q (recL a).length d],.int .i64 (recI a),.int .i64 (recE a)])∧OL w' LV (.slice q (recL a).length d) (recL a) us∧Blk w.heap.size w'.heap.size us∧ApartV us:=by
 obtain ⟨hb,h⟩:=h
 refine ⟨hb,?_⟩
 cases a with
 |ok q=>
  obtain ⟨k,l⟩:=q
  obtain ⟨lv,us,h1,h2,h3,h4⟩:=h
  obtain ⟨q,d,rfl⟩:=h2.slice
  exact ⟨q,d,us,h1,h2,h3,h4⟩
 |error q=>
  obtain ⟨i,e⟩:=q
  exact ⟨none,0,[.slice none 0 0],h,OL.nil _ _,Blk.none _ _,ApartV.one _⟩
theorem listV (l:List VT) (N:Nat) (w:World) (lv:Value) (h:LAt w.heap.size w N lv l):VAt w.heap.size w N (.agg #[.int .i64 0,.int .u64 0,.string ⟨#[]⟩,lv,.int .i64 0]) (.mk 0 0 ⟨#[]⟩ 0 l):=
 ⟨⟨by show _≤(0:Int);omega,by show (0:Int)≤_;omega,by show (0:Int)≤0;omega,by show (0:Int)≤_;omega,by show _≤(0:Int);omega,by show (0:Int)≤_;omega,by show (0:Nat)≤_;omega⟩,lv,rfl,h⟩
theorem equalAll_any {N:Nat} {l:List VT} {q q':Option Addr} {d d':Nat} {w:World} (h:LAt w.heap.size w N (.slice q l.length d) l) (h':LAt w.heap.size w N (.slice q' l.length d') l):Calls Tryd.prog 29 #[.slice q l.length d,.slice q' l.length d'] w fun r w'=>r= .returned (.bool true)∧Below w.heap.size w w':=by
 have HE:Hid (Calls Tryd.prog 17 #[.agg #[.int .i64 0,.int .u64 0,.string ⟨#[]⟩,.slice q l.length d,.int .i64 0],.agg #[.int .i64 0,.int .u64 0,.string ⟨#[]⟩,.slice q' l.length d',.int .i64 0]] w fun r w'=>r= .returned (.bool true)∧Below w.heap.size w w'):=by
  have:=equal_any (listV l N w _ h) (listV l N w _ h') (Nat.le_refl _)
  rw [eqT_self] at this
  exact this
 clear h h'
 go_enter Tryd.func29,Tryd.ntmps29
 go_wp2_with (go_at_call 17;refine HE.out.mono ?_;rintro r w2 ⟨rfl,hb2⟩;have HB:=Lib.hid hb2;clear hb2)
 go_ret
 exact ⟨rfl,HB.out⟩
theorem sameRec_any {N:Nat} {k:Int} {l:List VT} {q q':Option Addr} {d d':Nat} {w:World} (h:LAt w.heap.size w N (.slice q l.length d) l) (h':LAt w.heap.size w N (.slice q' l.length d') l):Calls Tryd.prog 16 #[.agg #[.int .i64 k,.slice q l.length d],.agg #[.int .i64 k,.slice q' l.length d']] w fun r w'=>r= .returned (.bool true)∧Below w.heap.size w w':=by
 obtain ⟨W1,hW1⟩:∃ W1,(w.alloc (.cells #[.int .i64 k,.slice q l.length d] 31)).alloc (.cells #[.int .i64 k,.slice q' l.length d'] 31)=W1:=⟨_,rfl⟩
 obtain ⟨x1,x2,hz1,hb1⟩:=two_boxes (cs:=[.int .i64 k,.slice q l.length d]) (ds:=[.int .i64 k,.slice q' l.length d']) hW1
 have l1:=wload_slice (x1.cell (j:=1) rfl)
 have l2:=wload_slice (x2.cell (j:=1) rfl)
 have HE:=Lib.hid (equalAll_any ((h.below hb1).up (by omega)) ((h'.below hb1).up (by omega)))
 have HLD:Hid (∀ v,Below W1.heap.size W1 v→(Instr.loadAt 3 (.pointer (some ⟨w.heap.size,0,none⟩))).run Tryd.prog v= .ok (.int .i64 k) v∧(Instr.loadAt 3 (.pointer (some ⟨w.heap.size+1,0,none⟩))).run Tryd.prog v= .ok (.int .i64 k) v∧Below w.heap.size w v):=fun v hv=>
  ⟨pload_int ((x1.below hv (by omega)).cell (j:=0) rfl),pload_int ((x2.below hv (by omega)).cell (j:=0) rfl),hb1.trans (hv.mono (by omega))⟩
 clear h h' x1 x2 hb1
 go_enter Tryd.func16,Tryd.ntmps16
 go_wp2_with (go_at_call 29;refine HE.out.mono ?_;rintro r w2 ⟨rfl,hb2⟩;obtain ⟨m1,m2,hb⟩:=HLD.out w2 hb2;have HB:=Lib.hid hb;clear hb hb2)
 go_ret
 exact ⟨by simp,HB.out⟩
theorem unans_small (t:VT) (C:Int):nodesL (recL (unAns t C))≤2*(nodes t+13):=by
 unfold unAns
 split
 ·cases h:unpackF 3 t with
  |error e=>show nodesL []≤_;simp [nodesL]
  |ok q=>
   obtain ⟨k,l⟩:=q
   have:=unpack_nodes2 (mild2F 3) h
   show nodesL l≤_
   omega
 ·show nodesL []≤_
  simp [nodesL]
end Go.Proofs.YtfoiaiblggapeaaDoor.Va
namespace Go.Proofs.YtfoiaiblggapeaaDoor.Va
open Go Go.RowKit Nu Uc
theorem unpack_ok {M n:Nat} {t:VT} {q:Option Addr} {d:Nat} {v:World} {k:Int} {l:List VT} (hE:Env v) (hf:t.Fine) (hn:t.list.length=n) (hl:LAt v.heap.size v M (.slice q n d) t.list) (hs:nodes t≤99999000) (ha:unAns t (checkT t 1)= .ok (k,l)) {m:Nat} (hm:l.length=m):
 Calls Tryd.prog 13 #[.agg #[.int .i64 t.kind,.int .u64 t.num,.string t.text,.slice q n d,.int .i64 t.elem]] v fun r w'=>Below v.heap.size v w'∧∃ q d us,r= .returned (.tuple #[.agg #[.int .i64 k,.slice q m d],.int .i64 0,.int .i64 0])∧OL w' LV (.slice q m d) l us:=by
 subst hn hm
 refine (recUnpack_any (N:=M) (B:=v.heap.size) t (.slice q t.list.length d) v hE hf hl (Nat.le_refl _) (by omega)).mono fun r w' hans=>?_
 rw [ha] at hans
 obtain ⟨h1,q,d,us,h2,h3,_⟩:=UnAns.get2 hans
 exact ⟨h1,q,d,us,h2,h3⟩
theorem unpack_no {M n:Nat} {t:VT} {q:Option Addr} {d:Nat} {v:World} {i e:Int} {j:Nat} (hE:Env v) (hf:t.Fine) (hn:t.list.length=n) (hl:LAt v.heap.size v M (.slice q n d) t.list) (hs:nodes t≤99999000) (ha:unAns t (checkT t 1)= .error (j,e)) (hi:(j:Int)=i):
 Calls Tryd.prog 13 #[.agg #[.int .i64 t.kind,.int .u64 t.num,.string t.text,.slice q n d,.int .i64 t.elem]] v fun r w'=>Below v.heap.size v w'∧r= .returned (.tuple #[.agg #[.int .i64 0,.slice none 0 0],.int .i64 i,.int .i64 e]):=by
 subst hn hi
 refine (recUnpack_any (N:=M) (B:=v.heap.size) t (.slice q t.list.length d) v hE hf hl (Nat.le_refl _) (by omega)).mono fun r w' hans=>?_
 rw [ha] at hans
 exact ⟨hans.1,hans.2⟩
theorem pack_ok {M n:Nat} {k:Int} {l:List VT} {q:Option Addr} {d:Nat} {v:World} {y:VT} (hE:Env v) (hn:l.length=n) (hl:LAt v.heap.size v M (.slice q n d) l) (hs:nodesL l≤99999000) (ha:packAns k l (recC (readF 3) (packF 3) k l)= .ok y) {m:Nat} (hm:y.list.length=m):
 Calls Tryd.prog 15 #[.agg #[.int .i64 k,.slice q n d]] v fun r w'=>Below v.heap.size v w'∧∃ q d us,r= .returned (.tuple #[.agg #[.int .i64 y.kind,.int .u64 y.num,.string y.text,.slice q m d,.int .i64 y.elem],.int .i64 0])∧y.Fine∧OL w' LV (.slice q m d) y.list us:=by
 subst hn hm
 refine (recPack_any (N:=M) (B:=v.heap.size) k l (.slice q l.length d) v hE hl (Nat.le_refl _) (by omega)).mono fun r w' hans=>?_
 rw [ha] at hans
 obtain ⟨h1,q,d,us,h2,h3,h4,_⟩:=ReadAns.get2 hans
 exact ⟨h1,q,d,us,h2,h3,h4⟩
theorem pack_no {M n:Nat} {k:Int} {l:List VT} {q:Option Addr} {d:Nat} {v:World} {e:Int} (hE:Env v) (hn:l.length=n) (hl:LAt v.heap.size v M (.slice q n d) l) (hs:nodesL l≤99999000) (ha:packAns k l (recC (readF 3) (packF 3) k l)= .error e):
 Calls Tryd.prog 15 #[.agg #[.int .i64 k,.slice q n d]] v fun r w'=>Below v.heap.size v w'∧r= .returned (.tuple #[.agg #[.int .i64 0,.int .u64 0,.string ⟨#[]⟩,.slice none 0 0,.int .i64 0],.int .i64 e]):=by
 subst hn
 refine (recPack_any (N:=M) (B:=v.heap.size) k l (.slice q l.length d) v hE hl (Nat.le_refl _) (by omega)).mono fun r w' hans=>?_
 rw [ha] at hans
 exact ⟨hans.1,hans.2⟩
theorem check_ok {M n:Nat} {k:Int} {l:List VT} {q:Option Addr} {d:Nat} {v:World} (hE:Env v) (hn:l.length=n) (hl:LAt v.heap.size v M (.slice q n d) l) (hs:nodesL l≤99999000) {c:Int} (ha:recC (readF 3) (packF 3) k l=c):
 Calls Tryd.prog 14 #[.agg #[.int .i64 k,.slice q n d]] v fun r w'=>r= .returned (.int .i64 c)∧Below v.heap.size v w':=by
 subst hn ha
 exact recCheck_any (N:=M) (B:=v.heap.size) k l (.slice q l.length d) v hE hl (Nat.le_refl _) (by omega)
theorem un_split (t:VT):(∃ j e,unAns t (checkT t 1)= .error (j,e)∧e≠0)∨∃ k l y,unAns t (checkT t 1)= .ok (k,l)∧recC (readF 3) (packF 3) k l=0∧packAns k l (recC (readF 3) (packF 3) k l)= .ok y∧unAns y (checkT y 1)= .ok (k,l)∧nodesL l≤2*(nodes t+13)∧nodes y≤2*nodesL l+3:=by
 unfold unAns
 by_cases hc:checkT t 1=0
 ·rw [if_pos hc]
  cases hu:unpackF 3 t with
  |error q=>exact .inl ⟨q.1,q.2,rfl,unpackG_err (readF_err 3) hu⟩
  |ok q=>
   obtain ⟨k,l⟩:=q
   obtain ⟨h1,h2,h3⟩:=back_rec (by decide) hc hu
   have hn:=unpack_nodes2 (mild2F 3) hu
   refine .inr ⟨k,l,packF 3 k l,rfl,h1,?_,?_,by omega,pack_nodes2 (mild2F 3) k l⟩
   ·unfold packAns;rw [if_pos h1]
   ·rw [if_pos h2,h3]
 ·rw [if_neg hc]
  exact .inl ⟨0,_,rfl,hc⟩
theorem pk_split (k:Int) (l:List VT):(∃ e,packAns k l (recC (readF 3) (packF 3) k l)= .error e∧e≠0)∨∃ y l',recC (readF 3) (packF 3) k l=0∧packAns k l (recC (readF 3) (packF 3) k l)= .ok y∧y=packF 3 k l∧unAns y (checkT y 1)= .ok (k,l')∧l'.length=l.length∧packAns k l' (recC (readF 3) (packF 3) k l')= .ok y∧nodes y≤2*nodesL l+3∧nodesL l'≤2*(nodes y+13):=by
 by_cases hc:recC (readF 3) (packF 3) k l=0
 ·obtain ⟨h1,l',h2,h3,h4,h5⟩:=back_val (n:=3) (by decide) hc
  have hn:=unpack_nodes2 (mild2F 3) h2
  refine .inr ⟨packF 3 k l,l',hc,?_,rfl,?_,h3,?_,pack_nodes2 (mild2F 3) k l,by omega⟩
  ·unfold packAns;rw [if_pos hc]
  ·unfold unAns;rw [if_pos h1,h2]
  ·unfold packAns;rw [if_pos h4,h5]
 ·refine .inl ⟨_,?_,hc⟩
  unfold packAns;rw [if_neg hc]
theorem packed_at {B M:Nat} {w:World} {q:Option Addr} {d:Nat} {k:Int} {g:List VT} (h:LAt B w (M+1) (.slice q 2 d) [.mk 5 k empt 0 [],.mk 21 0 empt 0 g]):
 ∃ b off e p c,q=some ⟨b,off,none⟩∧b<B∧Cells w b off (VT.cells (.mk 5 k empt 0 []) e)∧Cells w b (off+5) (VT.cells (.mk 21 0 empt 0 g) (.slice p g.length c))∧LAt B w M e []∧LAt B w M (.slice p g.length c) g:=by
 rcases h with ⟨h,_⟩|⟨b,off,c,h1,h2,_,h4⟩
 ·cases h
 ·cases h1
  obtain ⟨_,e,a0,l0⟩:=h4 0 _ rfl
  obtain ⟨_,lv,a1,l1⟩:=h4 1 _ rfl
  obtain ⟨p,c,rfl⟩:=l1.slice
  have a0:At5 w b (off+0*5) (.mk 5 k empt 0 []) e:=a0
  have a1:At5 w b (off+1*5) (.mk 21 0 empt 0 g) (.slice p g.length c):=a1
  rw [Nat.zero_mul,Nat.add_zero] at a0
  rw [Nat.one_mul] at a1
  exact ⟨b,off,e,p,c,rfl,h2,at5_cells a0,at5_cells a1,l0,l1⟩
theorem pack_two {M n:Nat} {k:Int} {l g:List VT} {q:Option Addr} {d:Nat} {v:World} (hE:Env v) (hn:l.length=n) (hl:LAt v.heap.size v M (.slice q n d) l) (hs:nodesL l≤99999000) (ha:packAns k l (recC (readF 3) (packF 3) k l)= .ok (packV k g)):
 Calls Tryd.prog 15 #[.agg #[.int .i64 k,.slice q n d]] v fun r w'=>Below v.heap.size v w'∧∃ q d,r= .returned (.tuple #[.agg #[.int .i64 24,.int .u64 0,.string ⟨#[]⟩,.slice q 2 d,.int .i64 0],.int .i64 0])∧LAt w'.heap.size w' LV (.slice q 2 d) [.mk 5 k empt 0 [],.mk 21 0 empt 0 g]:=
 (pack_ok hE hn hl hs ha (m:=2) rfl).mono fun _ _ ⟨h1,q,d,_,h2,_,h4⟩=>⟨h1,q,d,h2,h4.lat⟩
end Go.Proofs.YtfoiaiblggapeaaDoor.Va
namespace Go.Proofs.YtfoiaiblggapeaaDoor.Va
open Go Go.ChangeShapes Go.WideShapes Go.ChangeAt Go.RowKit Nu
def BAt (w:World) (v:Value) (bs:List Bool):Prop:=∃ p c,v= .slice p bs.length c∧bs.length≤maxLen∧∀ i x,bs[i]? =some x→∃ b off,p=some ⟨b,off,none⟩∧w.cell? ⟨b,off+i,none⟩=some (.bool x)
theorem BAt.below {w w':World} {v:Value} {bs:List Bool} (h:BAt w v bs) (hb:Below w.heap.size w w'):BAt w' v bs:=by
 obtain ⟨p,c,h1,h2,h3⟩:=h
 refine ⟨p,c,h1,h2,fun i x hx=>?_⟩
 obtain ⟨b,off,hp,hc⟩:=h3 i x hx
 exact ⟨b,off,hp,(hb.cell (p:=⟨b,_,none⟩) (lt_of_cell hc)).trans hc⟩
theorem BAt.slice {w:World} {v:Value} {bs:List Bool} (h:BAt w v bs):∃ p c,v= .slice p bs.length c:=let ⟨p,c,h1,_⟩:=h;⟨p,c,h1⟩
section
variable {H:Type} {enc:TypeId×Value→H} {w:World} {base:Nat} {spare:Nat→Bool} {held:Bool}
theorem open_bools {fuel:Nat} {v:Value} {x:DataW H×List MemPlace} (h:DataW.trod enc Tryd.prog w base spare held fuel 42 [v]=some x):∃ bs,BAt w v bs:=by
 rcases DataW.trod_slice Tryd.underlying42 h with ⟨he,_⟩|⟨a,len,cap,elems,rest,n,hn,he,_,_,hlc,hcm,hlen,hel,_,_⟩
 ·simp only [List.cons.injEq,and_true] at he
  exact ⟨[],none,0,he,Nat.zero_le _,fun i x hx=>by simp at hx⟩
 ·simp only [List.cons.injEq,and_true] at he
  have key:∀ i,i<len→∃ t:Bool,w.cell? (a.add (i*1+0))=some (.bool t):=by
   intro i hi
   have h1:=hel i hi
   rw [List.getElem?_eq_getElem (by omega)] at h1
   obtain ⟨cs',hc,ht'⟩:=Option.bind_eq_some_iff.1 h1
   obtain ⟨t,rfl,_⟩:=DataW.trod_bool Tryd.underlying4 ht'
   rw [show Tryd.prog.cellsOf 4=1 by kernel_rfl] at hc
   obtain ⟨_,_,hat⟩:=World.cells?_some hc
   refine ⟨t,?_⟩
   rw [←Go.Deep.add_add,hat 0 (by decide)]
   rfl
  obtain ⟨bs,hbl,hbs⟩:=list_of len key
  refine ⟨bs,some a,cap,by rw [hbl];exact he,by omega,fun i x hx=>?_⟩
  have:=hbs i x hx
  have hsp:a.spot=none:=by
   obtain ⟨y,hy⟩:∃ y,bs[0]? =some y:=⟨_,List.getElem?_eq_getElem (by have:=(List.getElem?_eq_some_iff.1 hx).1;omega)⟩
   simpa [Addr.add] using World.cell?_spot (hbs 0 y hy)
  obtain ⟨b,off,spot⟩:=a
  simp only at hsp
  subst hsp
  refine ⟨b,off,rfl,?_⟩
  rwa [add_plain,Nat.mul_one,Nat.add_zero] at this
theorem open_argB {r:Reach} {b0:Nat} {v:Value} {d:DataW H} {p:List MemPlace} (hv:Value.okWide Tryd.prog w r b0 42 v) (h:DataW.Trod enc Tryd.prog w base spare held 42 v d p):∃ bs,BAt w v bs:=by
 obtain ⟨fuel,hf⟩:=h
 obtain ⟨a,n,c,rfl⟩:=okWide_slice Tryd.underlying42 hv
 exact open_bools hf
theorem open_argT {r:Reach} {b0:Nat} {v:Value} (hv:Value.okWide Tryd.prog w r b0 4 v):∃ b,v= .bool b:=okWide_bool Tryd.underlying4 hv
end
end Go.Proofs.YtfoiaiblggapeaaDoor.Va
