/-
  The texts R9 Q2 FR Q3 Q4 of this claim, one behind the other.
-/
import Derived.Test.YtmldhjoolebjoaaGreatDoorZTFB7
import Derived.Test.YtmldhjoolebjoaaGreatDoorZTFB6
import Derived.Test.YtmldhjoolebjoaaGreatDoorZTFA1
import Derived.Test.YtmldhjoolebjoaaGreatDoorZTFB0
set_option maxHeartbeats 40000000
set_option maxRecDepth 100000
namespace Go.Proofs.YtmldhjoolebjoaaGreatDoor.Va
open Go Go.RowKit Nu Uc
def ab7 (r:Ending):Prop:=∃ X:Bool,r= .returned (.bool X)
theorem ab8 (X:Bool):ab7 (.returned (.bool X)):=⟨X,rfl⟩
theorem QH (k m:Int) (s:ByteArray) (p:Option Addr) (n c:Nat) (e:Int) (w:World) (hn:n≤9223372036854775807) (h:k<0∨24<k):
 Calls Tryz.prog 170 #[.agg #[.int .i64 k,.int .u64 m,.string s,.slice p n c,.int .i64 e]] w fun r w'=>ab7 r∧Below w.heap.size w w':=by
 have iM:Hid (∀ o:Obj,Below w.heap.size w (w.alloc o)):=fun o=>(Below.refl _ _).alloc (Nat.le_refl _) _
 rcases h with h|h
 ·have f0:¬1≤k:=by omega
  have f1:¬k=14:=by omega
  have f2:¬17≤k:=by omega
  have f3:¬21≤k:=by omega
  have f4:¬k=23:=by omega
  clear h
  go_enter Tryz.func170,Tryz.ntmps170
  go_wp2
  all_goals
   go_ret
   exact ⟨ab8 _,iM.out _⟩
 ·have f0:1≤k:=by omega
  have f1:¬k≤16:=by omega
  have f2:¬k=14:=by omega
  have f3:17≤k:=by omega
  have f4:¬k≤20:=by omega
  have f5:21≤k:=by omega
  have f6:¬k=23:=by omega
  clear h
  go_enter Tryz.func170,Tryz.ntmps170
  go_wp2
  all_goals
   go_ret
   exact ⟨ab8 _,iM.out _⟩
theorem QI (k m:Int) (s:ByteArray) (p:Option Addr) (n c:Nat) (e:Int) (w:World) (hn:n≤9223372036854775807):
 Calls Tryz.prog 170 #[.agg #[.int .i64 k,.int .u64 m,.string s,.slice p n c,.int .i64 e]] w fun r w'=>(∃ X:Bool,r= .returned (.bool X)∧(0≤k→k≤24→X=gU k m s e n))∧Below w.heap.size w w':=by
 by_cases h:k<0∨24<k
 ·refine (QH k m s p n c e w hn h).mono ?_
  rintro r w' ⟨⟨X,hX⟩,hb⟩
  exact ⟨⟨X,hX,fun h0 h1=>by omega⟩,hb⟩
 ·refine (QF k m s p n c e w hn (by omega) (by omega)).mono ?_
  rintro r w' ⟨hX,hb⟩
  exact ⟨⟨_,hX,fun _ _=>rfl⟩,hb⟩
theorem NB {t:VT} {d:Int} {X Y Z M A:Bool} (hX:0≤t.kind→t.kind≤24→X=gU t.kind t.num t.text t.elem t.list.length) (hY:Y=iB t.kind t.num) (hZ:Z=rH t.kind t.text) (hM:M=kQ t.list) (hA:A=rT t.elem t.list):
 cz t d=if t.kind<0∨24<t.kind then 20 else if 32<d then 26 else if X=true then 25 else if Y=false then 21 else if Z=false then 22 else if t.kind=22∧M=false then 23 else if t.kind=23∧A=false then 24 else if t.kind=24∧t.list.length≠2 then 27 else 0:=by
 unfold cz
 by_cases hk:t.kind<0∨24<t.kind
 ·rw [if_pos hk,if_pos hk]
 ·rw [if_neg hk,if_neg hk,hX (by omega) (by omega),hY,hZ,hM,hA]
  simp
attribute [-go_sem] Go.Instr.loadAt Go.Instr.storeAt
theorem ain:afG:=by
 intro N B t lv d w hf hl hB hd
 obtain ⟨p,c,rfl⟩:=hl.slice
 have hlen:t.list.length≤9223372036854775807:=hl.len
 obtain ⟨W1,hW1⟩:∃ W1,w.alloc (.cells #[.int .i64 t.kind,.int .u64 t.num,.string t.text,.slice p t.list.length c,.int .i64 t.elem] 25)=W1:=⟨_,rfl⟩
 obtain ⟨b1,b2,b3⟩:=kP hW1
 have k1:Cells W1 w.heap.size 0 (t.cells (.slice p t.list.length c)):=Cells.of_heap (cs:=t.cells (.slice p t.list.length c)) b1
 have HK:Hid (∀ v,Below (w.heap.size+1) W1 v→(Instr.loadAt 25 (.pointer (some ⟨w.heap.size,0,none⟩))).run Tryz.prog v= .ok (.agg #[.int .i64 t.kind,.int .u64 t.num,.string t.text,.slice p t.list.length c,.int .i64 t.elem]) v∧(Instr.loadAt 3 (.pointer (some ⟨w.heap.size,0,none⟩))).run Tryz.prog v= .ok (.int .i64 t.kind) v∧
  (Instr.loadAt 23 (.pointer (some ⟨w.heap.size,3,none⟩))).run Tryz.prog v= .ok (.slice p t.list.length c) v∧Below w.heap.size w v∧bR B v N (.slice p t.list.length c) t.list∧B≤v.heap.size):=fun v h=>by
  have hc:∀ j u,(t.cells (.slice p t.list.length c))[j]? =some u→v.cell? ⟨w.heap.size,j,none⟩=some u:=fun j u hu=>(h.cell (p:=⟨w.heap.size,j,none⟩) (Nat.lt_succ_self _)).trans (ow k1 j u hu)
  have hb:=b3.trans (h.mono (Nat.le_succ _))
  refine ⟨ag (t:=t) (lv:= .slice p t.list.length c) fun j u hu=>by rw [Nat.zero_add];exact hc j u hu,vR (hc 0 _ rfl),aF (hc 3 _ rfl),hb,hl.below (hb.mono hB),by have:=hb.size;omega⟩
 have HE:=ajd (fun w=>QI t.kind t.num t.text p t.list.length c t.elem w hlen)
 have HN:=ajd (fun w=>Nz t.kind t.num t.text (.slice p t.list.length c) t.elem w hf.n0 hf.n1)
 have HT:=ajd (fun w=>JP t.kind t.num t.text (.slice p t.list.length c) t.elem w (by have:=hf.x1;unfold maxLen at this;omega))
 have HM:=ajd (fun w (h:bR B w N (.slice p t.list.length c) t.list) (hB:B≤w.heap.size)=>abf t.list (.slice p t.list.length c) w h hB)
 have HA:Hid (∀ w,bR B w N (.slice p t.list.length c) t.list→B≤w.heap.size→Calls Tryz.prog 174 #[.agg #[.int .i64 t.kind,.int .u64 t.num,.string t.text,.slice p t.list.length c,.int .i64 t.elem]] w fun r w'=>r= .returned (.bool (rT t.elem t.list))∧Below w.heap.size w w'):=fun w h hB=>Y9 t (.slice p t.list.length c) w h hB
 obtain ⟨l0,_⟩:=HK.out W1 (Below.refl _ _)
 obtain ⟨Y,hY⟩:∃ Y,iB t.kind t.num=Y:=⟨_,rfl⟩
 obtain ⟨Z,hZ⟩:∃ Z,rH t.kind t.text=Z:=⟨_,rfl⟩
 obtain ⟨M,hM⟩:∃ M,kQ t.list=M:=⟨_,rfl⟩
 obtain ⟨A,hA⟩:∃ A,rT t.elem t.list=A:=⟨_,rfl⟩
 have HS:Hid (∀ X:Bool,(0≤t.kind→t.kind≤24→X=gU t.kind t.num t.text t.elem t.list.length)→cz t d=if t.kind<0∨24<t.kind then 20 else if 32<(d:Int) then 26 else if X=true then 25 else if Y=false then 21 else if Z=false then 22 else if t.kind=22∧M=false then 23 else if t.kind=23∧A=false then 24 else if t.kind=24∧t.list.length≠2 then 27 else 0):=fun X hX=>NB hX hY.symm hZ.symm hM.symm hA.symm
 rw [hY] at HN
 rw [hZ] at HT
 rw [hM] at HM
 rw [hA] at HA
 obtain ⟨R,hR⟩:∃ R,cz t d=R:=⟨_,rfl⟩
 rw [hR] at HS ⊢
 clear hR hY hZ hM hA hf hl b1 b3 k1
 obtain ⟨n,hn⟩:∃ n,t.list.length=n:=⟨_,rfl⟩
 rw [hn] at hlen hW1 HK l0 HE HN HT HM HA HS ⊢
 clear hn
 obtain ⟨kk,hkk⟩:∃ kk,t.kind=kk:=⟨_,rfl⟩
 have ek:(t.agg (.slice p n c))= .agg #[.int .i64 kk,.int .u64 t.num,.string t.text,.slice p n c,.int .i64 t.elem]:=by rw [←hkk]
 rw [ek]
 rw [hkk] at hW1 HK l0 HE HN HT HA HS
 clear hkk ek
 go_enter Tryz.func124,Tryz.ntmps124
 go_wp2_with (fail)
 clear hW1 l0
 refine (HE.out W1).mono ?_
 rintro r w2 ⟨⟨X,rfl,hX⟩,hb2⟩
 have HS2:=ajd (HS.out X hX)
 have B2:=ajd (hb2.mono (Nat.le_of_eq b2.symm))
 clear hX hb2 HS HE
 obtain ⟨l1,_⟩:=HK.out w2 B2.out
 go_wp2_with (fail)
 refine (HN.out w2).mono ?_
 rintro r w3 ⟨rfl,hb3⟩
 have B3:=ajd (B2.out.trans (hb3.mono (by have:=B2.out.size;omega)))
 clear hb3 HN l1
 obtain ⟨l1,_⟩:=HK.out w3 B3.out
 go_wp2_with (fail)
 refine (HT.out w3).mono ?_
 rintro r w4 ⟨rfl,hb4⟩
 have B4:=ajd (B3.out.trans (hb4.mono (by have:=B3.out.size;omega)))
 clear hb4 HT l1
 obtain ⟨l1,l2,l3,hbw,hL4,hB4⟩:=HK.out w4 B4.out
 have BW:=ajd hbw
 clear hbw
 have fin:∀ (v:Value) (q:Int),R=q→v= .int .i64 q→Ending.returned v= .returned (.int .i64 R):=fun v q h1 h2=>by rw [h1,h2]
 have FIN:=ajd fin
 clear fin
 by_cases hk:kk<0∨24<kk
 ·have HR:Hid (R=20):=HS2.out.trans (if_pos hk)
  rcases hk with hk|hk
  ·go_wp2
   go_ret
   exact ⟨FIN.out _ _ HR.out rfl,BW.out⟩
  ·have hk2:¬kk<0:=by omega
   have hk3:25≤kk:=by omega
   go_wp2
   go_ret
   exact ⟨FIN.out _ _ HR.out rfl,BW.out⟩
 ·have QJ:Hid _:=HS2.out.trans (if_neg hk)
  have hk2:¬kk<0:=by omega
  have hk3:¬25≤kk:=by omega
  clear hk HS2
  by_cases hd:32<(d:Int)
  ·have HR:Hid (R=26):=QJ.out.trans (if_pos hd)
   go_wp2
   go_ret
   exact ⟨FIN.out _ _ HR.out rfl,BW.out⟩
  ·have HS2:Hid _:=QJ.out.trans (if_neg hd)
   clear QJ
   cases X with
   |true=>
    have HR:Hid (R=25):=HS2.out.trans (if_pos rfl)
    go_wp2
    go_ret
    exact ⟨FIN.out _ _ HR.out rfl,BW.out⟩
   |false=>
    have QJ:Hid _:=HS2.out.trans (if_neg (by simp))
    clear HS2
    cases Y with
    |false=>
     have HR:Hid (R=21):=QJ.out.trans (if_pos rfl)
     go_wp2
     go_ret
     exact ⟨FIN.out _ _ HR.out rfl,BW.out⟩
    |true=>
     have HS2:Hid _:=QJ.out.trans (if_neg (by simp))
     clear QJ
     cases Z with
     |false=>
      have HR:Hid (R=22):=HS2.out.trans (if_pos rfl)
      go_wp2
      go_ret
      exact ⟨FIN.out _ _ HR.out rfl,BW.out⟩
     |true=>
      have QJ:Hid _:=HS2.out.trans (if_neg (by simp))
      clear HS2
      by_cases k22:kk=22
      ·subst k22
       have HMC:=ajd (HM.out w4 hL4 hB4)
       cases M with
       |false=>
        have HR:Hid (R=23):=QJ.out.trans (if_pos ⟨rfl,rfl⟩)
        clear HM HA hL4
        go_wp2_with (go_at_call 173;refine HMC.out.mono ?_;rintro r w5 ⟨rfl,hb5⟩)
        go_ret
        exact ⟨FIN.out _ _ HR.out rfl,BW.out.trans (hb5.mono BW.out.size)⟩
       |true=>
        have HR:Hid (R=0):=QJ.out.trans (by simp)
        clear HM HA hL4
        go_wp2_with (go_at_call 173;refine HMC.out.mono ?_;rintro r w5 ⟨rfl,hb5⟩)
        go_ret
        exact ⟨FIN.out _ _ HR.out rfl,BW.out.trans (hb5.mono BW.out.size)⟩
      by_cases k23:kk=23
      ·subst k23
       have HAC:=ajd (HA.out w4 hL4 hB4)
       cases A with
       |false=>
        have HR:Hid (R=24):=QJ.out.trans (by simp)
        clear HM HA hL4
        go_wp2_with (go_at_call 174;refine HAC.out.mono ?_;rintro r w5 ⟨rfl,hb5⟩)
        go_ret
        exact ⟨FIN.out _ _ HR.out rfl,BW.out.trans (hb5.mono BW.out.size)⟩
       |true=>
        have HR:Hid (R=0):=QJ.out.trans (by simp)
        clear HM HA hL4
        go_wp2_with (go_at_call 174;refine HAC.out.mono ?_;rintro r w5 ⟨rfl,hb5⟩)
        go_ret
        exact ⟨FIN.out _ _ HR.out rfl,BW.out.trans (hb5.mono BW.out.size)⟩
      by_cases k24:kk=24
      ·subst k24
       by_cases hn2:n=2
       ·subst hn2
        have HR:Hid (R=0):=QJ.out.trans (by simp)
        go_wp2
        go_ret
        exact ⟨FIN.out _ _ HR.out rfl,BW.out⟩
       ·have HR:Hid (R=27):=QJ.out.trans (by simp [hn2])
        have hne:((n:Int)!=2)=true:=by simp;omega
        clear hn2
        go_wp2
        go_ret
        exact ⟨FIN.out _ _ HR.out rfl,BW.out⟩
      ·have HR:Hid (R=0):=QJ.out.trans (by simp [k22,k23,k24])
       go_wp2
       go_ret
       exact ⟨FIN.out _ _ HR.out rfl,BW.out⟩
theorem xH {N B:Nat} (t:VT) (lv:Value) (w:World) (hf:t.bD) (hl:bR B w N lv t.list) (hB:B≤w.heap.size) (hn:nodes t≤900000000):
 Calls Tryz.prog 79 #[t.agg lv] w fun r w'=>r= .returned (.int .i64 (aB t 1))∧Below w.heap.size w w':=by
 obtain ⟨p,c,rfl⟩:=hl.slice
 obtain ⟨W1,hW1⟩:∃ W1,w.alloc (.cells #[.int .i64 t.kind,.int .u64 t.num,.string t.text,.slice p t.list.length c,.int .i64 t.elem] 25)=W1:=⟨_,rfl⟩
 obtain ⟨b1,b2,b3⟩:=kP hW1
 have k1:Cells W1 w.heap.size 0 (t.cells (.slice p t.list.length c)):=Cells.of_heap (cs:=t.cells (.slice p t.list.length c)) b1
 have l0:=ag k1
 have HC:Hid (Calls Tryz.prog 99 #[.agg #[.int .i64 t.kind,.int .u64 t.num,.string t.text,.slice p t.list.length c,.int .i64 t.elem],.int .i64 1] W1 fun r w'=>r= .returned (.int .i64 (aB t 1))∧Below W1.heap.size W1 w'):=aa9 ain N B t (.slice p t.list.length c) 1 W1 hf (hl.below (b3.mono hB)) (by omega) (by omega)
 have HB:=ajd b3
 have hz:=b3.size
 obtain ⟨R,hR⟩:∃ R,aB t 1=R:=⟨_,rfl⟩
 rw [hR] at HC ⊢
 clear hR hl hf b1 b3 k1
 go_enter Tryz.func79,Tryz.ntmps79
 go_wp2_with (fail)
 clear l0 hW1
 refine HC.out.mono ?_
 rintro r w2 ⟨rfl,hb2⟩
 have HB2:=ajd (HB.out.trans (hb2.mono hz))
 clear hb2 HC
 go_wp2
 go_ret
 exact ⟨rfl,HB2.out⟩
end Go.Proofs.YtmldhjoolebjoaaGreatDoor.Va
namespace Go.Proofs.YtmldhjoolebjoaaGreatDoor.Va
open Go Go.RowKit Nu Uc Fd Go.Proofs.YtmldhjoolebjoaaGreatDoor.Nm
attribute [-go_sem] Go.Instr.loadAt Go.Instr.storeAt
def RUn (n:Nat):Prop:=∀ (P:Nat→Prop) (N:Nat) (t:VT) (lv:Value) (w:World),(∀ b,P b→b<w.heap.size)→Env w→t.bD→bu P w N lv t.list→Zv (kindOf t)≤n→(nodes t+13)*2^(n+1)≤800000000→
    Calls Tryz.prog 103 #[t.agg lv] w fun r w'=>Iw P (Iu n t) w r w'
def Fa (P:Nat→Prop) (v:VT) (w:World) (r:Ending) (w':World):Prop:=∃ gM M,r= .returned (v.agg gM)∧bu (fun b=>P b∨w.heap.size≤b) w' M gM v.list∧Below w.heap.size w w'
def RPk (n:Nat):Prop:=∀ (P:Nat→Prop) (lo hi N:Nat) (k:Int) (fs:List FT) (l:List VT) (lv fv:Value) (w:World),(∀ b,P b→b<w.heap.size)→Env w→aN k=some fs→l.length=fs.length→j6 lo hi w fv fs→bu P w N lv l→rk k≤n→(aj l+13)*2^n≤800000000→C8 n fs l→
    Calls Tryz.prog 82 #[.agg #[.int .i64 k,lv],fv] w fun r w'=>Fa P (aU n k l) w r w'
def afI (a:Except (Nat×Int) (Int×List VT)):Int:=match a with| .error e=>e.2| .ok _=>0
theorem JQ (rd:Rd) (f:FT) (t:VT):gX rd f t=if t.kind=0∧f.must=true then 72 else if aB t 1≠0∨t.kind=0 then aB t 1 else if bF f t=false then 73 else Vh (rd f t):=by
 unfold gX Vh
 cases rd f t<;>rfl
theorem QK {n:Nat} {f:FT} {t:VT} (h:f.type≠102):Vh (ai n f t)=0:=by rw [aV n f t h];rfl
theorem Vs {m:Nat} {f:FT} {t:VT} (h:f.type=102) (hc:aB t 1=0):Vh (ai (m+1) f t)=afI (Iu m t):=by
 have e1:ai (m+1) f t=dh (bH (ai m)) (gN (ai m)) f t:=rfl
 have e2:Iu m t=bH (ai m) t:=if_neg (by simp [hc])
 rw [e1,e2]
 unfold dh
 rw [if_pos h]
 cases bH (ai m) t<;>rfl
theorem Vt {n lo hi N:Nat} {P:Nat→Prop} (hU:∀ m,n=m+1→RUn m) (f:FT) (kv:Value) (t:VT) (lv:Value) (w:World) (FD:∀ b,P b→b<w.heap.size) (hE:Env w) (hk:jq lo hi w kv f.kinds) (hkl:f.kinds.length≤1000) (hft:t.bD) (hl:bu P w N lv t.list) (Fx:f.type=102→bF f t=true→Zv (kindOf t)<n) (hnd:(nodes t+13)*2^n≤800000000):
 Calls Tryz.prog 100 #[jJ f kv,t.agg lv] w fun r w'=>r= .returned (.int .i64 (gX (ai n) f t))∧Below w.heap.size w w':=by
 have aaU:nodes t≤800000000:=by have:=Nat.le_mul_of_pos_right (nodes t+13) (Nat.two_pow_pos n);omega
 obtain ⟨p,c,rfl⟩:=hl.slice
 obtain ⟨kp,kc,rfl,Vd⟩:=hk.view
 obtain ⟨W1,hW1⟩:∃ W1,(w.alloc (.cells #[.string ⟨f.name.toArray⟩,.int .i64 f.type,.slice kp f.kinds.length kc,.bool f.must,.int .i64 f.dk,.int .u64 f.dn,.string ⟨f.dt.toArray⟩,.slice none 0 0,.int .i64 0] 121)).alloc (.cells #[.int .i64 t.kind,.int .u64 t.num,.string t.text,.slice p t.list.length c,.int .i64 t.elem] 25)=W1:=⟨_,rfl⟩
 obtain ⟨x1,x2,hz1,hb1⟩:=bK (cs:=fA f (.slice kp f.kinds.length kc)) (ds:=t.cells (.slice p t.list.length c)) hW1
 have l1:=aG (x2.cell (j:=0) rfl)
 have l2:=rD (x1.cell (j:=3) rfl)
 have l3:=ag x2.1
 have hl1:bu P W1 N (.slice p t.list.length c) t.list:=hl.below hb1
 have FX:=ajd (xH t (.slice p t.list.length c) W1 hft hl1.vX (Nat.le_refl _) (by omega))
 have HB1:=ajd hb1
 have Sj:Hid (∀ v,Below W1.heap.size W1 v→Env v∧bu P v N (.slice p t.list.length c) t.list∧jq lo hi v (.slice kp f.kinds.length kc) f.kinds∧W1.heap.size≤v.heap.size):=fun v h=>⟨(hE.below hb1).below h,hl1.below h,(hk.below hb1).below h,h.size⟩
 have Vu:Hid (∀ v,Below W1.heap.size W1 v→(Instr.loadAt 121 (.pointer (some ⟨w.heap.size,0,none⟩))).run Tryz.prog v= .ok (jJ f (.slice kp f.kinds.length kc)) v∧(Instr.loadAt 25 (.pointer (some ⟨w.heap.size+1,0,none⟩))).run Tryz.prog v= .ok (t.agg (.slice p t.list.length c)) v∧(Instr.loadAt 3 (.pointer (some ⟨w.heap.size+1,0,none⟩))).run Tryz.prog v= .ok (.int .i64 t.kind) v∧(Instr.loadAt 3 (.pointer (some ⟨w.heap.size,1,none⟩))).run Tryz.prog v= .ok (.int .i64 f.type) v):=fun v h=>
  ⟨eY (x1.below h (by omega)).1,ag (x2.below h (by omega)).1,aG ((x2.below h (by omega)).cell (j:=0) rfl),aG ((x1.below h (by omega)).cell (j:=1) rfl)⟩
 have HU:=ajd hU
 have HP:=ajd FD
 have Vg:=ajd Fx
 have o7:=ajd hnd
 have YY:=ajd hft
 have Nr:=ajd (JQ (ai n) f t)
 obtain ⟨R,hR⟩:∃ R,gX (ai n) f t=R:=⟨_,rfl⟩
 obtain ⟨C,hC⟩:∃ C,aB t 1=C:=⟨_,rfl⟩
 rw [hR] at Nr ⊢
 rw [hC] at Nr FX
 have VJ:=ajd hC
 clear hl hk hE x1 x2 Vd hU FD Fx hnd hR hC hft hl1 hb1
 show Calls Tryz.prog 100 #[.agg #[.string ⟨f.name.toArray⟩,.int .i64 f.type,.slice kp f.kinds.length kc,.bool f.must,.int .i64 f.dk,.int .u64 f.dn,.string ⟨f.dt.toArray⟩,.slice none 0 0,.int .i64 0],.agg #[.int .i64 t.kind,.int .u64 t.num,.string t.text,.slice p t.list.length c,.int .i64 t.elem]] w _
 by_cases hm:t.kind=0∧f.must=true
 ·have oF:Hid (R=72):=Nr.out.trans (if_pos hm)
  rw [hm.1] at l1
  rw [hm.2] at l2
  clear hm
  go_enter Tryz.func100,Tryz.ntmps100
  go_wp2
  go_ret
  exact ⟨mF oF.out.symm,HB1.out⟩
 have Qx:=ajd (Nr.out.trans (if_neg hm))
 by_cases hk0:t.kind=0
 ·have hmf:f.must=false:=by
   cases h:f.must with
   |false=>rfl
   |true=>exact absurd ⟨hk0,h⟩ hm
  have oF:Hid (R=C):=Qx.out.trans (if_pos (.inr hk0))
  have HKZ:Hid (∀ v,Below W1.heap.size W1 v→(Instr.loadAt 3 (.pointer (some ⟨w.heap.size+1,0,none⟩))).run Tryz.prog v= .ok (.int .i64 0) v):=fun v h=>by
   have:=(Vu.out v h).2.2.1
   rwa [hk0] at this
  rw [hk0] at l1
  rw [hmf] at l2
  clear hm hmf hk0
  by_cases hC0:C=0
  ·subst hC0
   go_enter Tryz.func100,Tryz.ntmps100
   go_wp2_with (go_at_call 79;refine FX.out.mono ?_;rintro r w2 ⟨rfl,hb2⟩;have HB2:=ajd (HB1.out.trans (hb2.mono (by omega)));have l4:=HKZ.out w2 hb2;clear hb2)
   go_ret
   exact ⟨mF oF.out.symm,HB2.out⟩
  ·have hcb:(C !=0)=true:=by simp [hC0]
   clear hC0
   go_enter Tryz.func100,Tryz.ntmps100
   go_wp2_with (go_at_call 79;refine FX.out.mono ?_;rintro r w2 ⟨rfl,hb2⟩;have HB2:=ajd (HB1.out.trans (hb2.mono (by omega)));have l4:=HKZ.out w2 hb2;clear hb2)
   go_ret
   exact ⟨mF oF.out.symm,HB2.out⟩
 have hkb:(t.kind==0)=false:=by simp [hk0]
 have Yz:=ajd hk0
 clear hm hk0
 by_cases hC0:C=0
 case neg=>
  have oF:Hid (R=C):=Qx.out.trans (if_pos (.inl hC0))
  have hcb:(C !=0)=true:=by simp [hC0]
  clear hC0
  go_enter Tryz.func100,Tryz.ntmps100
  go_wp2_with (go_at_call 79;refine FX.out.mono ?_;rintro r w2 ⟨rfl,hb2⟩;have HB2:=ajd (HB1.out.trans (hb2.mono (by omega)));clear hb2)
  all_goals
   go_ret
   exact ⟨mF oF.out.symm,HB2.out⟩
 subst hC0
 have Qy:=ajd (Qx.out.trans (if_neg (by rintro (h|h);exact h rfl;exact Yz.out h)))
 obtain ⟨Z,hZ⟩:∃ Z,bF f t=Z:=⟨_,rfl⟩
 have Qo:=ajd hZ
 rw [hZ] at Qy
 go_enter Tryz.func100,Tryz.ntmps100
 go_wp2_with (go_at_call 79;refine FX.out.mono ?_;rintro r w2 ⟨rfl,hb2⟩;have HB2:=ajd hb2;obtain ⟨l5,l6,l4,_⟩:=Vu.out w2 hb2;have HWT:Hid (Calls Tryz.prog 125 #[jJ f (.slice kp f.kinds.length kc),t.agg (.slice p t.list.length c)] w2 fun r w'=>r= .returned (.bool Z)∧Below w2.heap.size w2 w'):=(by obtain ⟨v1,v2,v3,_⟩:=Sj.out w2 hb2;have:=Ny f (.slice kp f.kinds.length kc) t (.slice p t.list.length c) w2 v1 v3 hkl YY.out v2.vX (Nat.le_refl _);rw [hZ] at this;exact this);clear hb2)
 refine HWT.out.mono ?_
 rintro r V ⟨rfl,hbv⟩
 have rX:=ajd (HB2.out.trans (hbv.mono HB2.out.size))
 have oz:=ajd (HB1.out.trans (rX.out.mono (by omega)))
 have Vi:W1.heap.size≤V.heap.size:=rX.out.size
 obtain ⟨_,m6,_,m7⟩:=Vu.out V rX.out
 clear hbv
 cases Z with
 |false=>
  have oF:Hid (R=73):=Qy.out.trans (if_pos rfl)
  go_wp2
  go_ret
  exact ⟨mF oF.out.symm,oz.out⟩
 |true=>
  have Vj:=ajd (Qy.out.trans (if_neg (by simp)))
  by_cases h102:f.type=102
  case neg=>
   have oF:Hid (R=0):=Vj.out.trans (QK h102)
   have htb:(f.type==102)=false:=by simp [h102]
   clear h102
   go_wp2
   go_ret
   exact ⟨mF oF.out.symm,oz.out⟩
  have adq:=Vg.out h102 Qo.out
  obtain ⟨m,rfl⟩:∃ m,n=m+1:=⟨n-1,by omega⟩
  have adr:Hid (R=afI (Iu m t)):=Vj.out.trans (Vs h102 VJ.out)
  have htb:(f.type==102)=true:=by simp [h102]
  have HUN:Hid (Calls Tryz.prog 103 #[t.agg (.slice p t.list.length c)] V fun r w'=>Iw P (Iu m t) V r w'):=HU.out m rfl P N t _ V (fun b h=>Nat.lt_of_lt_of_le (HP.out b h) oz.out.size) (Sj.out V rX.out).1 YY.out (Sj.out V rX.out).2.1 (by omega) o7.out
  obtain ⟨a,ha⟩:∃ a,Iu m t=a:=⟨_,rfl⟩
  rw [ha] at HUN adr
  clear ha h102 adq
  go_wp2_with (fail)
  refine HUN.out.mono ?_
  rintro r w4 ⟨hb4,bQ⟩
  obtain ⟨x4,Qs,BR⟩:=aH (w:=w4) (cs:=[.int .i64 0,.slice none 0 0]) (T:=91) rfl
  have hz:=hb4.size
  have hzb:=oz.out.size
  have MO:=ajd (oz.out.trans (hb4.mono oz.out.size))
  clear hb4
  cases a with
  |error q=>
   obtain ⟨i,e⟩:=q
   subst bQ
   have oF:Hid (R=e):=adr.out
   obtain ⟨X5,hs5,_,_,hb5,oH,_⟩:=bJ x4 rfl 0 none 0 0
   have Sa:=ajd (MO.out.trans ((BR.trans hb5).mono (by omega)))
   clear hb5 x4 BR
   go_wp2
   go_ret
   exact ⟨mF oF.out.symm,Sa.out⟩
  |ok q=>
   obtain ⟨k,l⟩:=q
   obtain ⟨lv5,M5,rfl,Fy⟩:=bQ
   obtain ⟨q5,c5,rfl⟩:=Fy.slice
   have oF:Hid (R=0):=adr.out
   obtain ⟨X5,hs5,_,_,hb5,oH,_⟩:=bJ x4 rfl k q5 l.length c5
   have Sa:=ajd (MO.out.trans ((BR.trans hb5).mono (by omega)))
   clear hb5 x4 BR Fy
   go_wp2
   go_ret
   exact ⟨mF oF.out.symm,Sa.out⟩
end Go.Proofs.YtmldhjoolebjoaaGreatDoor.Va
namespace Go.Proofs.YtmldhjoolebjoaaGreatDoor.Fd
open Go Go.RowKit Go.CE Nu Go.Proofs.YtmldhjoolebjoaaGreatDoor.Nm
theorem abh (j:Nat):eX 81 (Int.negSucc j) none=true:=by kernel_rfl
theorem abj (j:Nat):eX 81 (Int.ofNat (j+121)) none=true:=by kernel_rfl
theorem r_a:((List.range 22).all fun k=>eX 81 (Int.ofNat k) (iN k))=true:=by kernel_rfl
theorem r_b:((List.range 30).all fun k=>eX 81 (Int.ofNat (k+22)) (iN (k+22)))=true:=by kernel_rfl
theorem r_c:((List.range 69).all fun k=>eX 81 (Int.ofNat (k+52)) (iN (k+52)))=true:=by kernel_rfl
theorem mh (k:Int) (w:World):Calls Tryz.prog 81 #[.int .i64 k] w (gH k w):=fields_of (Yg abh abj r_a r_b r_c k) w
end Go.Proofs.YtmldhjoolebjoaaGreatDoor.Fd
namespace Go.Proofs.YtmldhjoolebjoaaGreatDoor.Va
open Go Go.RowKit Nu Uc Fd Go.Proofs.YtmldhjoolebjoaaGreatDoor.Nm
attribute [-go_sem] Go.Instr.loadAt Go.Instr.storeAt
theorem NC {w W1:World} {cs ds es:List Value} {T T' T'':TypeId} (h:((w.alloc (.cells cs.toArray T)).alloc (.cells ds.toArray T')).alloc (.cells es.toArray T'')=W1):eF W1 w.heap.size cs∧eF W1 (w.heap.size+1) ds∧eF W1 (w.heap.size+2) es∧W1.heap.size=w.heap.size+3∧Below w.heap.size w W1:=by
 subst h
 obtain ⟨x1,x2,hz,hb⟩:=bK (w:=w) (cs:=cs) (ds:=ds) (T:=T) (T':=T') rfl
 obtain ⟨x3,hz3,hb3⟩:=aH (w:=(w.alloc (.cells cs.toArray T)).alloc (.cells ds.toArray T')) (cs:=es) (T:=T'') rfl
 exact ⟨x1.below hb3 (by omega),x2.below hb3 (by omega),by rw [hz] at x3;exact x3,by omega,hb.trans (hb3.mono (by omega))⟩
def afJ (n:Nat) (f:FT) (t:VT) (m:Nat) (a:Except (Nat×Int) (Int×List VT)):Prop:=ai n f t=match a with| .error e=> .error e.2| .ok a=> .ok (aU m a.1 a.2)
theorem Sk {m:Nat} {f:FT} {t:VT} (h:f.type=102) (hc:aB t 1=0):afJ (m+1) f t m (Iu m t):=by
 have e1:ai (m+1) f t=dh (bH (ai m)) (gN (ai m)) f t:=rfl
 have e2:Iu m t=bH (ai m) t:=if_neg (by simp [hc])
 unfold afJ
 rw [e1,e2]
 unfold dh
 rw [if_pos h]
 cases bH (ai m) t<;>rfl
theorem bY.same {P:Nat→Prop} {N:Nat} {a:Except Int VT} {t:VT} {lv:Value} {w w':World} (ha:a= .ok t) (hf:t.bD) (hl:bu P w' N lv t.list) (hb:Below w.heap.size w w') (z:Value):bY P a z w (.returned (.tuple #[t.agg lv,.int .i64 0])) w':=by
 subst ha
 exact ⟨hb,lv,N,rfl,hf,hl.weak fun b h _=> .inl h⟩
theorem bY.bad {P:Nat→Prop} {a:Except Int VT} {z:Value} {e:Int} {w w':World} (ha:a= .error e) (hb:Below w.heap.size w w'):bY P a z w (.returned (.tuple #[z,.int .i64 e])) w':=by
 subst ha
 exact ⟨hb,rfl⟩
theorem JR {n lo hi N:Nat} {P:Nat→Prop} (hU:∀ m,n=m+1→RUn m∧RPk m) (f:FT) (kv:Value) (t:VT) (lv:Value) (w:World) (FD:∀ b,P b→b<w.heap.size) (hE:Env w) (hk:jq lo hi w kv f.kinds) (hkl:f.kinds.length≤1000) (Nf:0≤f.dn∧f.dn≤18446744073709551615∧0≤f.dk∧f.dk≤100∧f.dt.length≤100) (hft:t.bD) (hl:bu P w N lv t.list) (hc:aB t 1=0) (Fx:f.type=102→bF f t=true→Zv (kindOf t)<n) (hnd:(nodes t+13)*2^n≤800000000):
 Calls Tryz.prog 152 #[jJ f kv,t.agg lv] w fun r w'=>bY P (bA (ai n) f t) (t.agg lv) w r w':=by
 obtain ⟨p,c,rfl⟩:=hl.slice
 obtain ⟨kp,kc,rfl,Vd⟩:=hk.view
 obtain ⟨W1,hW1⟩:∃ W1,((w.alloc (.cells #[.string ⟨f.name.toArray⟩,.int .i64 f.type,.slice kp f.kinds.length kc,.bool f.must,.int .i64 f.dk,.int .u64 f.dn,.string ⟨f.dt.toArray⟩,.slice none 0 0,.int .i64 0] 121)).alloc (.cells #[.int .i64 t.kind,.int .u64 t.num,.string t.text,.slice p t.list.length c,.int .i64 t.elem] 25)).alloc (.cells #[.int .i64 0,.int .u64 0,.string ⟨#[]⟩,.slice none 0 0,.int .i64 0] 25)=W1:=⟨_,rfl⟩
 obtain ⟨x1,x2,x3,hz1,hb1⟩:=NC (cs:=fA f (.slice kp f.kinds.length kc)) (ds:=t.cells (.slice p t.list.length c)) (es:=ah.cells (.slice none 0 0)) hW1
 have l1:=aG (x2.cell (j:=0) rfl)
 have l2:=rD (x1.cell (j:=3) rfl)
 have l3:=ag x2.1
 have l4:=aG (x1.cell (j:=1) rfl)
 have l5:=eY x1.1
 have l6:(Instr.loadAt 25 (.pointer (some ⟨w.heap.size,4,none⟩))).run Tryz.prog W1= .ok (.agg #[.int .i64 f.dk,.int .u64 f.dn,.string ⟨f.dt.toArray⟩,.slice none 0 0,.int .i64 0]) W1:=ag (t:=f.dflt) (lv:= .slice none 0 0) fun j u hu=>by
  have:=x1.1 (4+j) u (by
   match j,hu with
   |0,hu=>exact hu
   |1,hu=>exact hu
   |2,hu=>exact hu
   |3,hu=>exact hu
   |4,hu=>exact hu
   |j+5,hu=>simp [VT.cells] at hu)
  rwa [Nat.zero_add] at this
 have hl1:bu P W1 N (.slice p t.list.length c) t.list:=hl.below hb1
 have HB1:=ajd hb1
 have X3:=ajd x3
 have Sj:Hid (∀ v,Below W1.heap.size W1 v→Env v∧bu P v N (.slice p t.list.length c) t.list∧jq lo hi v (.slice kp f.kinds.length kc) f.kinds∧W1.heap.size≤v.heap.size):=fun v h=>⟨(hE.below hb1).below h,hl1.below h,(hk.below hb1).below h,h.size⟩
 have Vu:Hid (∀ v,Below W1.heap.size W1 v→(Instr.loadAt 121 (.pointer (some ⟨w.heap.size,0,none⟩))).run Tryz.prog v= .ok (jJ f (.slice kp f.kinds.length kc)) v∧(Instr.loadAt 25 (.pointer (some ⟨w.heap.size+1,0,none⟩))).run Tryz.prog v= .ok (t.agg (.slice p t.list.length c)) v∧(Instr.loadAt 3 (.pointer (some ⟨w.heap.size,1,none⟩))).run Tryz.prog v= .ok (.int .i64 f.type) v∧eF v (w.heap.size+2) (ah.cells (.slice none 0 0))):=fun v h=>
  ⟨eY (x1.below h (by omega)).1,ag (x2.below h (by omega)).1,aG ((x1.below h (by omega)).cell (j:=1) rfl),x3.below h (by omega)⟩
 have abk:Hid (∀ v,Below W1.heap.size W1 v→∃ X,(Instr.storeAt 25 (.pointer (some ⟨w.heap.size+2,0,none⟩)) (.agg #[.int .i64 t.kind,.int .u64 t.num,.string t.text,.slice p t.list.length c,.int .i64 t.elem])).run Tryz.prog v= .ok () X∧(loadVar 25 ⟨w.heap.size+2,0,none⟩).run Tryz.prog X= .ok (t.agg (.slice p t.list.length c)) X∧Below w.heap.size w X∧bu P X N (.slice p t.list.length c) t.list):=fun v h=>by
  obtain ⟨X,h1,h2,h3,h4,h5⟩:=bL (x3.below h (by omega)) rfl t p t.list.length c
  have hbx:Below w.heap.size w X:=(hb1.trans (h.mono (by omega))).trans (h3.mono (by omega))
  exact ⟨X,h1,h2,hbx,hl.below hbx⟩
 have HLW:Hid (∀ X,Below w.heap.size w X→bu P X N (.slice p t.list.length c) t.list):=fun X h=>hl.below h
 have HU:=ajd hU
 have HP:=ajd FD
 have Vg:=ajd Fx
 have o7:=ajd hnd
 have YY:=ajd hft
 have FX:=ajd hc
 have Ze:=ajd Nf
 obtain ⟨R,hR⟩:∃ R,bA (ai n) f t=R:=⟨_,rfl⟩
 have HR:=ajd hR
 rw [hR]
 clear hl hk hE x1 x2 x3 Vd hU FD Fx hnd hR hft hl1 hb1 hc Nf
 show Calls Tryz.prog 152 #[.agg #[.string ⟨f.name.toArray⟩,.int .i64 f.type,.slice kp f.kinds.length kc,.bool f.must,.int .i64 f.dk,.int .u64 f.dn,.string ⟨f.dt.toArray⟩,.slice none 0 0,.int .i64 0],.agg #[.int .i64 t.kind,.int .u64 t.num,.string t.text,.slice p t.list.length c,.int .i64 t.elem]] w _
 by_cases hk0:t.kind=0
 ·cases hm:f.must with
  |true=>
   have HQ:Hid (R= .error 72):=HR.out.symm.trans (wU hk0 hm)
   obtain ⟨X,hs,hld,hbx,_⟩:=abk.out W1 (Below.refl _ _)
   have iJ:=ajd hld
   have BM:=ajd hbx
   rw [hk0] at l1
   rw [hm] at l2 hW1
   have hkb:(t.kind==0)=true:=by simp [hk0]
   clear hld hbx l4 l5 l6 hk0 hm
   go_enter Tryz.func152,Tryz.ntmps152
   go_wp2
   exact bodyPost_ret_by (az rfl rfl iJ.out rfl) rfl (bY.bad HQ.out BM.out)
  |false=>
   have HQ:Hid (R= .ok f.dflt):=HR.out.symm.trans (wT hk0 hm)
   obtain ⟨X,hs,hld,hbx,hzx,hsame⟩:=bL X3.out rfl f.dflt none 0 0
   replace hs:(Instr.storeAt 25 (.pointer (some ⟨w.heap.size+2,0,none⟩)) (.agg #[.int .i64 f.dk,.int .u64 f.dn,.string ⟨f.dt.toArray⟩,.slice none 0 0,.int .i64 0])).run Tryz.prog W1= .ok () X:=hs
   have iJ:=ajd hld
   have BM:=ajd (HB1.out.trans (hbx.mono (by omega)))
   have HV0:=ajd (JE f X Ze.out)
   rw [hk0] at l1
   rw [hm] at l2 hW1
   have hkb:(t.kind==0)=true:=by simp [hk0]
   clear hld hbx l4 l5 hk0 hm hsame hzx
   go_enter Tryz.func152,Tryz.ntmps152
   go_wp2
   exact bodyPost_ret_by (az rfl rfl iJ.out rfl) rfl (bY.same HQ.out HV0.out.1 (bu.nil 0 none 0) BM.out _)
 have hkb:(t.kind==0)=false:=by simp [hk0]
 by_cases hsy:f.type=101∧t.kind=20
 ·have HQ:Hid (R= .ok (gB t)):=HR.out.symm.trans (Gm hsy.1 hsy.2)
  have hkc:(t.kind==20)=true:=by simp [hsy.2]
  have htb:(f.type==101)=true:=by simp [hsy.1]
  obtain ⟨W2,hW2⟩:∃ W2,W1.alloc (.cells #[.int .i64 t.kind,.int .u64 t.num,.string t.text,.slice p t.list.length c,.int .i64 t.elem] 25)=W2:=⟨_,rfl⟩
  obtain ⟨y1,hz2,hb2⟩:=aH (cs:=t.cells (.slice p t.list.length c)) hW2
  obtain ⟨X,hs,hld,hbx,hzx,hsame⟩:=bL (X3.out.below hb2 (by omega)) rfl (gB t) (some ⟨W1.heap.size,0,none⟩) 1 1
  have HB2:=ajd (HB1.out.trans (hb2.mono (by omega)))
  have BM:=ajd (HB2.out.trans (hbx.mono (by omega)))
  have iJ:=ajd hld
  have EJ:Hid (bu (fun b=>P b∨w.heap.size≤b) X (N+1) (.slice (some ⟨W1.heap.size,0,none⟩) 1 1) [t]):=by
   have y2:eF X W1.heap.size (t.cells (.slice p t.list.length c)):=y1.heap (hsame _ (by omega))
   have hlx:=HLW.out X (HB2.out.trans (hbx.mono (by omega)))
   refine .inr ⟨W1.heap.size,0,1,rfl,.inr (by omega),by omega,(by show 1≤maxLen;decide),fun i u hu=>?_⟩
   match i,hu with
   |0,hu=>
    cases hu
    exact ⟨YY.out,_,⟨y2.cell (j:=0) rfl,y2.cell (j:=1) rfl,y2.cell (j:=2) rfl,y2.cell (j:=3) rfl,y2.cell (j:=4) rfl⟩,hlx.weak fun b h _=> .inl h⟩
   |i+1,hu=>simp at hu
  have VS:Hid (bY P R (t.agg (.slice p t.list.length c)) w (.returned (.tuple #[(gB t).agg (.slice (some ⟨W1.heap.size,0,none⟩) 1 1),.int .i64 0])) X):=by
   show bY P R _ w _ X
   rw [HQ.out]
   exact ⟨BM.out,_,_,rfl,⟨by show _≤(23:Int);omega,by show (23:Int)≤_;omega,by show (0:Int)≤0;omega,by show (0:Int)≤_;omega,by show _≤(20:Int);omega,by show (20:Int)≤_;omega,by show fE.size≤_;decide⟩,EJ.out⟩
  replace hs:(Instr.storeAt 25 (.pointer (some ⟨w.heap.size+2,0,none⟩)) (.agg #[.int .i64 23,.int .u64 0,.string ⟨#[]⟩,.slice (some ⟨W1.heap.size,0,none⟩) 1 1,.int .i64 20])).run Tryz.prog W2= .ok () X:=hs
  rw [hz1] at hs iJ VS
  clear hld hbx hzx hsame y1 hz2 hb2 hsy hk0 l2 l5 l6
  go_enter Tryz.func152,Tryz.ntmps152
  go_wp2
  exact bodyPost_ret_by (az rfl rfl iJ.out rfl) rfl VS.out
 obtain ⟨Z,hZ⟩:∃ Z,bF f t=Z:=⟨_,rfl⟩
 have Qo:=ajd hZ
 have HWT:Hid (Calls Tryz.prog 125 #[jJ f (.slice kp f.kinds.length kc),t.agg (.slice p t.list.length c)] W1 fun r w'=>r= .returned (.bool Z)∧Below W1.heap.size W1 w'):=by
  obtain ⟨v1,v2,v3,_⟩:=Sj.out W1 (Below.refl _ _)
  have:=Ny f (.slice kp f.kinds.length kc) t (.slice p t.list.length c) W1 v1 v3 hkl YY.out v2.vX (Nat.le_refl _)
  rw [hZ] at this
  exact this
 have HS0:Hid (¬(f.type=101∧t.kind=20)):=hsy
 have Yz:=ajd hk0
 have hor:(f.type==101)=false∨((f.type==101)=true∧(t.kind==20)=false):=by
  by_cases h:f.type=101
  ·exact .inr ⟨by simp [h],by simp;exact fun e=>hsy ⟨h,e⟩⟩
  ·exact .inl (by simp [h])
 clear hsy hk0 hZ l2 l6
 rcases hor with hA|⟨hA,hB⟩
 all_goals
  go_enter Tryz.func152,Tryz.ntmps152
  go_wp2_with (fail)
  refine HWT.out.mono ?_
  rintro r V ⟨rfl,hbv⟩
  have rX:=ajd hbv
  have oz:=ajd (HB1.out.trans (hbv.mono (by omega)))
  have Vi:W1.heap.size≤V.heap.size:=hbv.size
  obtain ⟨m5,m6,m7,_⟩:=Vu.out V hbv
  clear hbv l1 l3 l4 l5 hW1
  cases Z with
  |false=>
   have HQ:Hid (R= .error 73):=HR.out.symm.trans (Gn Yz.out HS0.out Qo.out)
   obtain ⟨X,hs,hld,hbx,_⟩:=abk.out V rX.out
   have iJ:=ajd hld
   have BM:=ajd hbx
   clear hld hbx m5 m7
   go_wp2
   exact bodyPost_ret_by (az rfl rfl iJ.out rfl) rfl (bY.bad HQ.out BM.out)
  |true=>
   have HQ0:Hid (R=ai n f t):=HR.out.symm.trans (KT Yz.out HS0.out Qo.out)
   by_cases h102:f.type=102
   case neg=>
    have HQ:Hid (R= .ok t):=HQ0.out.trans (aV n f t h102)
    have htc:(f.type !=102)=true:=by simp [h102]
    obtain ⟨X,hs,hld,hbx,hlx⟩:=abk.out V rX.out
    have iJ:=ajd hld
    have BM:=ajd hbx
    have BN:=ajd hlx
    clear hld hbx hlx m5 h102
    go_wp2
    exact bodyPost_ret_by (az rfl rfl iJ.out rfl) rfl (bY.same HQ.out YY.out BN.out BM.out _)
   have adq:=Vg.out h102 Qo.out
   obtain ⟨m,rfl⟩:∃ m,n=m+1:=⟨n-1,by omega⟩
   have htc:(f.type !=102)=false:=by simp [h102]
   have HEV:=ajd (Sk (m:=m) h102 FX.out)
   have HUN:Hid (Calls Tryz.prog 103 #[t.agg (.slice p t.list.length c)] V fun r w'=>Iw P (Iu m t) V r w'):=(HU.out m rfl).1 P N t _ V (fun b h=>Nat.lt_of_lt_of_le (HP.out b h) oz.out.size) (Sj.out V rX.out).1 YY.out (Sj.out V rX.out).2.1 (by omega) o7.out
   have hkm:Zv (kindOf t)≤m:=by omega
   have HKM:=ajd hkm
   obtain ⟨a,ha⟩:∃ a,Iu m t=a:=⟨_,rfl⟩
   have HA:=ajd ha
   rw [ha] at HUN HEV
   clear ha h102 adq hkm m5
   go_wp2_with (fail)
   clear m6 m7
   refine HUN.out.mono ?_
   rintro r w4 ⟨hb4,bQ⟩
   obtain ⟨x4,Qs,BR⟩:=aH (w:=w4) (cs:=[.int .i64 0,.slice none 0 0]) (T:=91) rfl
   have hz:=hb4.size
   have MO:=ajd (rX.out.trans (hb4.mono Vi))
   clear hb4
   cases a with
   |error q=>
    obtain ⟨i,e⟩:=q
    subst bQ
    have HQ:Hid (R= .error e):=HQ0.out.trans HEV.out
    have hne:e≠0:=by
     have h:=HA.out
     unfold Iu at h
     rw [if_neg (by simp [FX.out])] at h
     exact sO (kU m) h
    have hee:(e !=0)=true:=by simp [hne]
    obtain ⟨X5,hs5,_,_,hb5,oH,_⟩:=bJ x4 rfl 0 none 0 0
    have ND:Below W1.heap.size W1 X5:=MO.out.trans ((BR.trans hb5).mono (by omega))
    obtain ⟨_,m6,_,_⟩:=Vu.out X5 ND
    obtain ⟨X,hs,hld,hbx,_⟩:=abk.out X5 ND
    have iJ:=ajd hld
    have BM:=ajd hbx
    clear hld hbx ND hb5 x4 BR hne
    go_wp2
    exact bodyPost_ret_by (az rfl rfl iJ.out rfl) rfl (bY.bad HQ.out BM.out)
   |ok q=>
    obtain ⟨k,l⟩:=q
    obtain ⟨lv5,M5,rfl,Fy⟩:=bQ
    obtain ⟨q5,c5,rfl⟩:=Fy.slice
    have HQ:Hid (R= .ok (aU m k l)):=HQ0.out.trans HEV.out
    obtain ⟨fs,hfs,hgood,hll,hnn⟩:=KX HA.out
    obtain ⟨X5,hs5,_,y5,hb5,oH,_⟩:=bJ x4 rfl k q5 l.length c5
    have QL:Below w4.heap.size w4 X5:=BR.trans hb5
    have ND:Below W1.heap.size W1 X5:=MO.out.trans (QL.mono (by omega))
    have m8:=aG (y5.cell (j:=0) rfl)
    have hkk:rk k≤m:=by
     have h:=(Oy HA.out).2
     obtain ⟨fs',hr⟩:=dS h
     have:=HKM.out
     rw [hr.kind] at this
     exact this
    have HF:Hid (aN k=some fs∧C8 m fs l∧l.length=fs.length∧(aj l+13)*2^m≤800000000∧rk k≤m):=⟨hfs,hgood,hll,by
     have h1:=Nat.mul_le_mul_right (2^m) hnn
     have h2:=o7.out
     rw [Nat.pow_succ',←Nat.mul_assoc,Nat.mul_comm (nodes t+13) 2] at h2
     omega,hkk⟩
    have HL5:Hid (bu (fun b=>P b∨V.heap.size≤b) X5 M5 (.slice q5 l.length c5) l):=Fy.below QL
    have HE5:=ajd (Sj.out X5 ND).1
    have aio:=ajd ND
    have Y5:=ajd y5
    have rE:=mh k X5
    unfold gH at rE
    rw [hfs] at rE
    have JF:=ajd rE
    have aip:W1.heap.size≤X5.heap.size:=ND.size
    have hwx:w4.heap.size<X5.heap.size:=by omega
    clear rE ND QL hb5 x4 BR y5 oH hfs hgood hll hnn Fy hkk Qs hz
    go_wp2_with (go_at_call 81;refine JF.out.mono ?_;rintro r w6 ⟨vf,rfl,hfo,hb6⟩;have NN:=ajd hb6;have Cg:=ajd hfo;have m9:=gI (Y5.out.below hb6 hwx);clear hb6 hfo)
    have xG:=NN.out.size
    have Si:Hid (Calls Tryz.prog 82 #[.agg #[.int .i64 k,.slice q5 l.length c5],vf] w6 fun r w'=>Fa (fun b=>P b∨(V.heap.size≤b∧b<w6.heap.size)) (aU m k l) w6 r w'):=
     (HU.out m rfl).2 (fun b=>P b∨(V.heap.size≤b∧b<w6.heap.size)) _ _ M5 k fs l (.slice q5 l.length c5) vf w6 (fun b h=>by rcases h with h|h;exact Nat.lt_of_lt_of_le (HP.out b h) (by have:=oz.out.size;omega);exact h.2) (HE5.out.below NN.out) HF.out.1 HF.out.2.2.1 Cg.out ((HL5.out.below NN.out).weak fun b h hlt=>h.elim .inl fun h=> .inr ⟨h,hlt⟩) HF.out.2.2.2.2 HF.out.2.2.2.1 HF.out.2.1
    refine Si.out.mono ?_
    rintro r w7 ⟨lv7,M7,rfl,ho7,kr⟩
    obtain ⟨q7,c7,rfl⟩:=ho7.slice
    have rY:=kr.size
    have ads:Below W1.heap.size W1 w7:=(aio.out.trans (NN.out.mono aip)).trans (kr.mono (by omega))
    obtain ⟨_,_,_,x3⟩:=Vu.out w7 ads
    obtain ⟨X8,hs8,hl8,pM,VP,hsame⟩:=bL x3 rfl (aU m k l) q7 (aU m k l).list.length c7
    have iJ:=ajd hl8
    have BM:Hid (Below w.heap.size w X8):=(HB1.out.trans (ads.mono (by omega))).trans (pM.mono (by omega))
    have EJ:Hid (bu (fun b=>P b∨w.heap.size≤b) X8 M7 (.slice q7 (aU m k l).list.length c7) (aU m k l).list):=by
     refine (ho7.heap (w':=X8) (by omega) fun b hb _=>hsame b ?_).weak fun b hb _=>?_
     ·have hs1:=HB1.out.size
      rcases hb with (h|h)|h
      ·have:=HP.out b h;omega
      ·omega
      ·omega
     ·rcases hb with (h|h)|h
      ·exact .inl h
      ·exact .inr (by omega)
      ·exact .inr (by omega)
    have VS:Hid (bY P R (t.agg (.slice p t.list.length c)) w (.returned (.tuple #[(aU m k l).agg (.slice q7 (aU m k l).list.length c7),.int .i64 0])) X8):=by
     show bY P R _ w _ X8
     rw [HQ.out]
     exact ⟨BM.out,_,_,rfl,kV _ _,EJ.out⟩
    clear hl8 pM VP hsame x3 ads ho7 kr m9
    go_wp2
    exact bodyPost_ret_by (az rfl rfl iJ.out rfl) rfl VS.out
theorem Zf {v X:World} {b:Nat} {cs:List Value} (x:eF v b cs) (hl:cs.length=5) (t:VT) (a:Option Addr) (n c:Nat) (hs:(Instr.storeAt 25 (.pointer (some ⟨b,0,none⟩)) (t.agg (.slice a n c))).run Tryz.prog v= .ok () X):(Instr.loadAt 25 (.pointer (some ⟨b,0,none⟩))).run Tryz.prog X= .ok (t.agg (.slice a n c)) X:=by
 have h1:=aD (t:=t) (a:=a) (n:=n) (c:=c) (x.part (o:=0) (n:=5) (by omega))
 have y:=x.all (vs:=t.cells (.slice a n c)) (by rw [hl];rfl)
 rw [h1] at hs
 cases hs
 exact ag y.1
theorem uW {v X:World} {b:Nat} {cs:List Value} (x:eF v b cs) (hl:cs.length=5) (t:VT) (a:Option Addr) (n c:Nat) (hs:(Instr.storeAt 25 (.pointer (some ⟨b,0,none⟩)) (t.agg (.slice a n c))).run Tryz.prog v= .ok () X):∀ j,j≠b→X.heap[j]? =v.heap[j]? :=by
 have h1:=aD (t:=t) (a:=a) (n:=n) (c:=c) (x.part (o:=0) (n:=5) (by omega))
 rw [h1] at hs
 cases hs
 exact fun j hj=>aA hj _ _
theorem H6 {n:Nat} (hU:∀ m,n=m+1→RUn m∧RPk m):RPk n:=by
 intro P lo hi N k fs l lv fv w FD hE hfs hll hfo hl Fx hnd hgood
 obtain ⟨p,c,rfl⟩:=hl.slice
 obtain ⟨fp,fc,rfl,hfu⟩:=hfo.view
 have hkb:=wM hfs
 have hfl:=fP hfs
 obtain ⟨W1,hW1⟩:∃ W1,(w.alloc (.cells #[.int .i64 k,.slice p l.length c] 91)).alloc (.cells #[.int .i64 0,.int .u64 0,.string ⟨#[]⟩,.slice none 0 0,.int .i64 0] 25)=W1:=⟨_,rfl⟩
 obtain ⟨x1,x2,hz1,hb1⟩:=bK (cs:=[.int .i64 k,.slice p l.length c]) (ds:=ah.cells (.slice none 0 0)) hW1
 have X1:=ajd x1
 have X2:=ajd x2
 have HB1:=ajd hb1
 have AJ:=ajd (hE.below hb1)
 have HP:=ajd FD
 have MP:Hid (bu P W1 N (.slice p l.length c) l):=hl.below hb1
 have afL:Hid (j6 lo hi W1 (.slice fp fs.length fc) fs):=hfo.below hb1
 have HFS:=ajd hfs
 have o7:=ajd hnd
 have HG:=ajd hgood
 have HU:=ajd hU
 have Vg:=ajd Fx
 obtain ⟨R,hR⟩:∃ R,aU n k l=R:=⟨_,rfl⟩
 have HR:Hid (R=fK k (eT (List.zipWith (aT (ai n)) fs l))):=by
  show R=_
  rw [←hR]
  show gN (ai n) k l=_
  unfold gN
  rw [hfs];rfl
 rw [hR]
 obtain ⟨m,hm⟩:∃ m,l.length=m:=⟨_,rfl⟩
 have Hm:=ajd hm
 have hfm:fs.length=m:=by omega
 have Zz:=ajd hfm
 rw [hm] at hW1 X1 MP ⊢
 rw [hfm] at afL ⊢
 have ah0:m≤13:=by omega
 have adt:Hid (mG W1.heap.size 25 (fun b=>P b∨W1.heap.size≤b) W1 [] (.slice none 0 0) W1):=mG.start W1
 have HLS:Hid (∀ v,Below W1.heap.size W1 v→(Instr.loadAt 23 (.pointer (some ⟨w.heap.size,1,none⟩))).run Tryz.prog v= .ok (.slice p m c) v):=fun v h=>by
  have:=X1.out
  exact aF ((this.below h (by omega)).cell (j:=1) rfl)
 clear hl x1 x2 hb1 hE hfs hnd hR hm hfm hll hfl hfo hfu FD hgood hU Fx
 go_enter Tryz.func82,Tryz.ntmps82
 go_wp2
 obtain ⟨i0,hi0,hi1,hi2,hi3⟩:=info_parts uL
 go_loopw [5,6] (fun sv iv wr=>∃ (i:Nat) (items:List (VT×Value)),iv= .int .i64 i∧i≤m∧Hid (items.map (·.1)=(List.zipWith (aT (ai n)) fs l).take i)∧Hid (mG W1.heap.size 25 (fun b=>P b∨W1.heap.size≤b) W1 items sv wr)) (fun _ iv _=>m-(intOf iv).toNat)
 case atStart=>exact ⟨0,[],rfl,Nat.zero_le _,(by show []=_;simp),adt.out⟩
 case round=>
  obtain ⟨i,items,rfl,hi,HT,gK⟩:=hrel
  have ls:=HLS.out wr gK.out.below
  by_cases hlt:i<m
  ·obtain ⟨x,hx⟩:∃ x,l[i]? =some x:=⟨_,List.getElem?_eq_getElem (by rw [Hm.out];exact hlt)⟩
   obtain ⟨f,hf⟩:∃ f,fs[i]? =some f:=⟨_,List.getElem?_eq_getElem (by rw [Zz.out];exact hlt)⟩
   have rW:items.length=i:=by
    have:=congrArg List.length HT.out
    simp only [List.length_map,List.length_take,List.length_zipWith] at this
    have h1:=Hm.out;have h2:=Zz.out
    omega
   have HLr:=MP.out.below gK.out.below
   cases N with
   |zero=>exact HLr.elim
   |succ N=>
   rcases HLr with ⟨h0,_⟩|⟨b,off,c',hp,hPb,jy,_,hel⟩
   ·exfalso;have:=Hm.out;rw [h0] at this;simp at this;omega
   rw [Hm.out] at hp
   cases hp
   obtain ⟨xf,xlv,Nc,xl⟩:=hel i x hx
   obtain ⟨xq,xd,rfl⟩:=xl.slice
   have TG:=gK.out.Bw
   obtain ⟨q1,d1,e1,hv⟩:=(afL.out.below gK.out.below).view
   obtain ⟨fb,jX,kv,rfl,ZA,⟨a0,a1,a2,a3,a4,a5,a6,a7,a8⟩,hkv⟩:=hv i f hf
   simp only [Value.slice.injEq] at e1
   obtain ⟨rfl, -, -⟩:=e1
   have hcf:Cells wr fb (jX+i*9) (fA f kv):=fun j u hu=>by
    match j,hu with
    |0,hu=>cases hu;exact a0
    |1,hu=>cases hu;exact a1
    |2,hu=>cases hu;exact a2
    |3,hu=>cases hu;exact a3
    |4,hu=>cases hu;exact a4
    |5,hu=>cases hu;exact a5
    |6,hu=>cases hu;exact a6
    |7,hu=>cases hu;exact a7
    |8,hu=>cases hu;exact a8
    |j+9,hu=>simp [fA] at hu
   have le:=ag (dW Nc)
   have ac8:(0:Int)≤(i:Int):=by omega
   have ac9:(i:Int)<(m:Int):=by omega
   obtain ⟨Wa,hWa⟩:∃ Wa,wr.alloc (.cells #[.int .i64 0,.int .u64 0,.string ⟨#[]⟩,.slice none 0 0,.int .i64 0] 25)=Wa:=⟨_,rfl⟩
   obtain ⟨xa,hza,hba⟩:=aH (cs:=ah.cells (.slice none 0 0)) hWa
   obtain ⟨Wb,AL,xb,zy,hzb⟩:=fo xa rfl x xq x.list.length xd
   have hbb:Below wr.heap.size wr Wb:=hba.trans zy
   have hfg:=iW HFS.out (List.mem_of_getElem? hf)
   have hgd:=HG.out i f x hf hx
   have xJ:=ajd hf
   have HXI:=ajd hx
   have YG:=ajd xf
   have U8:Hid (bu P Wb N (.slice xq x.list.length xd) x.list):=xl.below hbb
   have Ze:=ajd (vN HFS.out (List.mem_of_getElem? hf))
   have HIP:Hid (aT (ai n) f x=if mM (wC n f x) f.dflt=true then ah else wC n f x):=Ox hfg hgd.1 hgd.2.1
   have HGD:=ajd hgd
   have gL:Hid (∀ v,Below wr.heap.size wr v→(Instr.loadAt 3 (.pointer (some ⟨fb,jX+i*9+1,none⟩))).run Tryz.prog v= .ok (.int .i64 f.type) v∧(Instr.loadAt 25 (.pointer (some ⟨fb,jX+i*9+4,none⟩))).run Tryz.prog v= .ok (.agg #[.int .i64 f.dk,.int .u64 f.dn,.string ⟨f.dt.toArray⟩,.slice none 0 0,.int .i64 0]) v):=fun v h=>by
    have hc:Cells v fb (jX+i*9) (fA f kv):=fun j u hu=>(h.cell (p:=⟨fb,_,none⟩) ZA).trans (hcf j u hu)
    exact ⟨aG (hc 1 _ rfl),ag (t:=f.dflt) (lv:= .slice none 0 0) fun j u hu=>by
     have:=hc (4+j) u (by
      match j,hu with
      |0,hu=>exact hu
      |1,hu=>exact hu
      |2,hu=>exact hu
      |3,hu=>exact hu
      |4,hu=>exact hu
      |j+5,hu=>simp [VT.cells] at hu)
     rwa [←Nat.add_assoc] at this⟩
   have lt3:=(gL.out Wb hbb).1
   have lk:=aG (xb.cell (j:=0) rfl)
   have lx:=ag xb.1
   have NL:=ajd hbb
   have XB:=ajd xb
   have hmx:items.length+1≤maxLen:=by unfold maxLen;omega
   have hmb:(items.length+1)*64≤140737488355328:=by omega
   have HEb:=ajd ((AJ.out.below gK.out.below).below hbb)
   obtain ⟨sp,sc,rfl⟩:=gK.out.form
   rw [rW] at gK hmx hmb ⊢
   have uP:=ajd rW
   have hnx:nodes x≤aj l:=gY (List.mem_of_getElem? hx)
   clear rW hel hx hf Nc xl xf hv hkv a0 a1 a2 a3 a4 a5 a6 a7 a8 hcf xa hba xb hbb zy hgd hfg hPb
   by_cases hcomp:f.type=102∧x.kind≠0
   case' pos=>
    have hct:(f.type==102)=true:=by simp [hcomp.1]
    have hck:(x.kind !=0)=true:=by simp [hcomp.2]
    have hwt:=HGD.out.2.2 hcomp.1 hcomp.2
    have afM:=nk HFS.out (List.mem_of_getElem? xJ.out) hcomp.1 hwt
    obtain ⟨j,hnj⟩:∃ j,n=j+1:=⟨n-1,by have:=Vg.out;omega⟩
    have HNJ:=ajd hnj
    obtain ⟨z,hz⟩:=HGD.out.2.1 hcomp.2
    have hev:=Sk (m:=j) hcomp.1 HGD.out.1
    rw [←hnj] at hev
    obtain ⟨a,ha⟩:∃ a,Iu j x=a:=⟨_,rfl⟩
    rw [ha] at hev
    have hzr2:wr.heap.size+1=Wb.heap.size:=by omega
    have HUN:Hid (Calls Tryz.prog 103 #[x.agg (.slice xq x.list.length xd)] Wb fun r w'=>Iw P (Iu j x) Wb r w'):=(HU.out j HNJ.out).1 P N x _ Wb (fun b h=>by have:=HP.out b h;have:=HB1.out.size;omega) HEb.out YG.out U8.out (by have:=Vg.out;omega) (by rw [←hnj];exact Nat.le_trans (Nat.mul_le_mul_right _ (Nat.add_le_add_right hnx 13)) o7.out)
    rw [ha] at HUN
    have HA:=ajd ha
    obtain ⟨⟨k2,l2⟩,rfl⟩:∃ q,a= .ok q:=by
     cases a with
     |error q=>
      exfalso
      have hev:ai n f x= .error q.2:=hev
      rw [hev] at hz;cases hz
     |ok q=>exact ⟨q,rfl⟩
    have hev:ai n f x= .ok (aU j k2 l2):=hev
    have HY:Hid (wC n f x=aU j k2 l2):=by
     show _=_
     unfold wC
     rw [if_pos hcomp,hev];rfl
    obtain ⟨fs2,afO,Zg,afP,afQ⟩:=KX HA.out
    have hkk:rk k2≤j:=by
     obtain ⟨fs',hr⟩:=dS (Oy HA.out).2
     have h1:=Vg.out
     rw [hr.kind] at afM
     have:Zv (some k2)=rk k2:=rfl
     omega
    have HF:Hid (aN k2=some fs2∧C8 j fs2 l2∧l2.length=fs2.length∧(aj l2+13)*2^j≤800000000∧rk k2≤j):=⟨afO,Zg,afP,by
     have h1:=Nat.mul_le_mul_right (2^j) afQ
     have h2:=o7.out
     rw [hnj] at h2
     have h3:=Nat.mul_le_mul_right (2^(j+1)) (Nat.add_le_add_right hnx 13)
     rw [Nat.pow_succ',←Nat.mul_assoc,Nat.mul_comm (nodes x+13) 2] at h3
     rw [Nat.pow_succ'] at h2
     omega,hkk⟩
    clear hcomp hnj hwt afM hz hev ha afO Zg afP afQ hkk hnx
    go_wp2_with (fail)
    clear hWa AL le lt3 lk lx ls
    refine HUN.out.mono ?_
    rintro r w4 ⟨hb4,lv5,M5,rfl,Fy⟩
    obtain ⟨q5,c5,rfl⟩:=Fy.slice
    obtain ⟨x4,Qs,BR⟩:=aH (w:=w4) (cs:=[.int .i64 0,.slice none 0 0]) (T:=91) rfl
    obtain ⟨X5,hs5,_,y5,hb5,oH,_⟩:=bJ x4 rfl k2 q5 l2.length c5
    have QL:Below w4.heap.size w4 X5:=BR.trans hb5
    have abl:=hb4.size
    have adu:Below Wb.heap.size Wb X5:=hb4.trans (QL.mono abl)
    have m8:=aG (y5.cell (j:=0) rfl)
    have HL5:Hid (bu (fun b=>P b∨Wb.heap.size≤b) X5 M5 (.slice q5 l2.length c5) l2):=Fy.below QL
    have adv:=ajd adu
    have Y5:=ajd y5
    have rE:=mh k2 X5
    unfold gH at rE
    rw [HF.out.1] at rE
    have JF:=ajd rE
    have hwx:w4.heap.size<X5.heap.size:=by omega
    have ais:Wb.heap.size≤X5.heap.size:=adu.size
    clear rE adu QL hb5 x4 BR y5 oH Fy Qs hb4 abl
    go_wp2_with (go_at_call 81;refine JF.out.mono ?_;rintro r w6 ⟨vf,rfl,hfo,hb6⟩;have NN:=ajd hb6;have Cg:=ajd hfo;have m9:=gI (Y5.out.below hb6 hwx);clear hb6 hfo)
    have xG:=NN.out.size
    have Si:Hid (Calls Tryz.prog 82 #[.agg #[.int .i64 k2,.slice q5 l2.length c5],vf] w6 fun r w'=>Fa (fun b=>P b∨(Wb.heap.size≤b∧b<w6.heap.size)) (aU j k2 l2) w6 r w'):=
     (HU.out j HNJ.out).2 (fun b=>P b∨(Wb.heap.size≤b∧b<w6.heap.size)) _ _ M5 k2 fs2 l2 (.slice q5 l2.length c5) vf w6 (fun b h=>by rcases h with h|h;exact Nat.lt_of_lt_of_le (HP.out b h) (by have:=HB1.out.size;omega);exact h.2) ((HEb.out.below adv.out).below NN.out) HF.out.1 HF.out.2.2.1 Cg.out ((HL5.out.below NN.out).weak fun b h hlt=>h.elim .inl fun h=> .inr ⟨h,hlt⟩) HF.out.2.2.2.2 HF.out.2.2.2.1 HF.out.2.1
    refine Si.out.mono ?_
    rintro r w7 ⟨lv7,M,rfl,ho7,kr⟩
    obtain ⟨y,hy⟩:∃ y,aU j k2 l2=y:=⟨_,rfl⟩
    have ZE:y.bD:=by rw [←hy];exact kV _ _
    rw [hy] at ho7 HY ⊢
    obtain ⟨yq,yd,rfl⟩:=ho7.slice
    have rY:=kr.size
    have abm:Below Wb.heap.size Wb w7:=(adv.out.trans (NN.out.mono ais)).trans (kr.mono (by omega))
    obtain ⟨V,hs8,yb,pM,VP⟩:=fo (XB.out.below abm (by omega)) rfl y yq y.list.length yd
    have zB:∀ b,b≠wr.heap.size→V.heap[b]? =w7.heap[b]? :=uW (XB.out.below abm (by omega)) rfl y yq y.list.length yd hs8
    have oz:Hid (Below wr.heap.size wr V):=(NL.out.trans (abm.mono (by omega))).trans pM
    have YB:=ajd yb
    have YF:=ajd ZE
    have YL:Hid (bu (fun b=>P b∨wr.heap.size≤b) V M (.slice yq y.list.length yd) y.list):=by
     refine (ho7.heap (w':=V) (by omega) fun b hb _=>zB b ?_).weak fun b hb _=>?_
     ·have hs1:=HB1.out.size
      rcases hb with (h|h)|h
      ·have:=HP.out b h;omega
      ·omega
      ·omega
     ·rcases hb with (h|h)|h
      ·exact .inl h
      ·exact .inr (by omega)
      ·exact .inr (by omega)
    have YZ:Hid (wr.heap.size<V.heap.size):=by show _<_;omega
    clear ho7 kr abm pM VP zB yb ZE hy m9 m8 hs5 HUN JF Si adv NN Cg HL5 Y5 HEb XB NL
    go_wp2
    clear hs8
   case' neg=>
    have HY:Hid (wC n f x=x):=if_neg hcomp
    have YB:=XB
    have YL:Hid (bu (fun b=>P b∨wr.heap.size≤b) Wb N (.slice xq x.list.length xd) x.list):=U8.out.weak fun b h _=> .inl h
    have YF:=YG
    have YZ:Hid (wr.heap.size<Wb.heap.size):=by show _<_;omega
    have oz:=NL
    have hor:(f.type==102)=false∨((f.type==102)=true∧(x.kind !=0)=false):=by
     by_cases h:f.type=102
     ·exact .inr ⟨by simp [h],by simp;exact Decidable.not_not.1 fun e=>hcomp ⟨h,e⟩⟩
     ·exact .inl (by simp [h])
    clear hcomp hnx
    rcases hor with hA|⟨hA,hB⟩
    all_goals
     go_wp2
     clear hWa AL le lt3 lk lx ls
     obtain ⟨y,hy⟩:∃ y,x=y:=⟨_,rfl⟩
     obtain ⟨V,hV⟩:∃ V,Wb=V:=⟨_,rfl⟩
     obtain ⟨M,hM⟩:∃ M,N=M:=⟨_,rfl⟩
     obtain ⟨yq,hyq⟩:∃ yq,xq=yq:=⟨_,rfl⟩
     obtain ⟨yd,hyd⟩:∃ yd,xd=yd:=⟨_,rfl⟩
     have HY2:Hid (wC n f x=y):=HY.out.trans hy
     clear HY
     have HY:=HY2
     clear HY2
     rw [hy] at YB YL YF
     rw [hV] at YB YL YZ oz ⊢
     rw [hM] at YL
     rw [hyq,hyd] at YB YL
     clear hy hV hM hyq hyd
   all_goals
    have Vi:=oz.out.size
    have BN:Hid (∀ v,Below V.heap.size V v→(Instr.loadAt 25 (.pointer (some ⟨fb,jX+i*9+4,none⟩))).run Tryz.prog v= .ok (.agg #[.int .i64 f.dk,.int .u64 f.dn,.string ⟨f.dt.toArray⟩,.slice none 0 0,.int .i64 0]) v∧(Instr.loadAt 25 (.pointer (some ⟨wr.heap.size,0,none⟩))).run Tryz.prog v= .ok (y.agg (.slice yq y.list.length yd)) v):=fun v h=>
     ⟨(gL.out v (oz.out.trans (h.mono Vi))).2,ag (YB.out.below h (by have:=YZ.out;omega)).1⟩
    have YK:Hid (∀ v,Below V.heap.size V v→Calls Tryz.prog 11 #[y.agg (.slice yq y.list.length yd),.agg #[.int .i64 f.dk,.int .u64 f.dn,.string ⟨f.dt.toArray⟩,.slice none 0 0,.int .i64 0]] v fun r w'=>r= .returned (.bool (mM y f.dflt))∧Below v.heap.size v w'):=fun v h=>
     qG (N:=M+1) (B:=v.heap.size) (t:=y) (t':=f.dflt) ⟨YF.out,_,rfl,(YL.out.below h).vX.mono (by omega)⟩ (let ⟨a,lv,e,hl⟩:=JE f v Ze.out;⟨a,lv,e,(hl.up (Nat.zero_le _)).mono (by omega)⟩) (Nat.le_refl _)
    obtain ⟨Z,hZ⟩:∃ Z,mM y f.dflt=Z:=⟨_,rfl⟩
    have HIZ:Hid (aT (ai n) f x=if Z=true then ah else y):=by rw [←hZ];exact HIP.out.trans (by rw [HY.out])
    rw [hZ] at YK
    clear hZ
    go_region_held3 (fun v=>(Instr.loadAt 25 (.pointer (some ⟨fb,jX+i*9+4,none⟩))).run Tryz.prog v= .ok (.agg #[.int .i64 f.dk,.int .u64 f.dn,.string ⟨f.dt.toArray⟩,.slice none 0 0,.int .i64 0]) v∧(Instr.loadAt 25 (.pointer (some ⟨wr.heap.size,0,none⟩))).run Tryz.prog v= .ok (y.agg (.slice yq y.list.length yd)) v)
     (first
       |with_reducible exact BN.out _ ((Below.refl _ _).drew.trans hb5)
       |with_reducible exact BN.out _ (Below.refl _ _).drew
       |with_reducible exact BN.out _ (Below.refl _ _))
     ((go_at_call 11;refine (YK.out _ (Below.refl _ _).drew).mono ?_;rintro r V2 ⟨rfl,cB⟩;have hb5:Below V.heap.size V.drew V2:=cB;clear cB))
    have HV2:=ajd ((Below.refl V.heap.size V).drew.trans hb5)
    have hzV2:=HV2.out.size
    clear hb5
    have YB2:=ajd (YB.out.below HV2.out (by have:=YZ.out;omega))
    have YL2:=ajd (YL.out.below HV2.out)
    cases Z with
    |true=>
     have HIT:Hid (aT (ai n) f x=ah):=HIZ.out.trans (if_pos rfl)
     obtain ⟨X,hs6,NM,hb6,xG,aiu⟩:=bL YB2.out rfl ah none 0 0
     replace hs6:(Instr.storeAt 25 (.pointer (some ⟨wr.heap.size,0,none⟩)) (.agg #[.int .i64 0,.int .u64 0,.string ⟨#[]⟩,.slice none 0 0,.int .i64 0])).run Tryz.prog V2= .ok () X:=hs6
     have ld6:(Instr.loadAt 25 (.pointer (some ⟨wr.heap.size,0,none⟩))).run Tryz.prog X= .ok (.agg #[.int .i64 0,.int .u64 0,.string ⟨#[]⟩,.slice none 0 0,.int .i64 0]) X:=Zf YB2.out rfl ah none 0 0 hs6
     have Qp:Hid (mG W1.heap.size 25 (fun b=>P b∨W1.heap.size≤b) W1 items (.slice sp i sc) X):=gK.out.keep (((oz.out.trans (HV2.out.mono Vi))).trans hb6)
     have zc:Below X.heap.size X (X.alloc (.cells #[.int .i64 0,.int .u64 0,.string ⟨#[]⟩,.slice none 0 0,.int .i64 0] 25)):=(Below.refl _ _).alloc (Nat.le_refl _) _
     have BG:=Qp.out.keep zc
     have zl:=ajd BG
     have hrow:=BG.row;rw [uP.out] at hrow
     have zm:=BG.Bw
     clear zc BG NM hb6 xG aiu
     go_wp2_with (at_builtin;go_must (refine wpList_append_own_at _ rfl _ _ 23 rfl W1.heap.size 25 i0 _ 5 64 Tryz.underlying23 hi0 hi1 hi2 hi3 rfl (by decide) (.slice sp i sc) i (bE items) rfl hrow ⟨X.heap.size,0,none⟩ 1 1 (ah.cells (.slice none 0 0)) rfl rfl (pg X ah (.slice none 0 0) _) (pq _ _ _ _) hmx hmb zm ?_;intro v' w6 hown6 gJ qH qI))
     rw [←uP.out] at hown6
     have YI:Hid (mG W1.heap.size 25 (fun b=>P b∨W1.heap.size≤b) W1 (items++[(ah,.slice none 0 0)]) v' w6):=zl.out.push (x:=(ah,.slice none 0 0)) iq (bu.nil 0 _ _) hown6 gJ qI
     have YJ:Hid ((items++[((ah,.slice none 0 0):VT×Value)]).map (·.1)=(List.zipWith (aT (ai n)) fs l).take (i+1)):=Gj xJ.out HXI.out HT.out HIT.out.symm
     clear hown6 gJ qH qI hrow zm
     go_roundw
     case rel=>exact ⟨i+1,_,by go_num,by omega,YJ.out,YI.out⟩
     case measure=>simp [intOf];omega
    |false=>
     have HIT:Hid (aT (ai n) f x=y):=HIZ.out.trans (if_neg (by simp))
     have ld6:=ag YB2.out.1
     have Qp:Hid (mG W1.heap.size 25 (fun b=>P b∨W1.heap.size≤b) W1 items (.slice sp i sc) V2):=gK.out.keep (oz.out.trans (HV2.out.mono Vi))
     have zc:Below V2.heap.size V2 (V2.alloc (.cells #[.int .i64 y.kind,.int .u64 y.num,.string y.text,.slice yq y.list.length yd,.int .i64 y.elem] 25)):=(Below.refl _ _).alloc (Nat.le_refl _) _
     have BG:=Qp.out.keep zc
     have zl:=ajd BG
     have hrow:=BG.row;rw [uP.out] at hrow
     have zm:=BG.Bw
     have HYA:Hid (bu (fun b=>(P b∨W1.heap.size≤b)∧(Value.slice sp i sc).ownBlock≠some b) (V2.alloc (.cells #[.int .i64 y.kind,.int .u64 y.num,.string y.text,.slice yq y.list.length yd,.int .i64 y.elem] 25)) M (.slice yq y.list.length yd) y.list):=
      BG.away (lo:=wr.heap.size) (YL2.out.below zc) (fun b hb _=>by
       rcases hb with h|h
       ·exact ⟨.inl h,.inl (by have:=HP.out b h;have:=HB1.out.size;omega)⟩
       ·exact ⟨.inr (by have:=gK.out.Bw;omega),.inr h⟩) (fun b hb=>(gK.out.iL hb).2)
     clear zc BG
     go_wp2_with (at_builtin;go_must (refine wpList_append_own_at _ rfl _ _ 23 rfl W1.heap.size 25 i0 _ 5 64 Tryz.underlying23 hi0 hi1 hi2 hi3 rfl (by decide) (.slice sp i sc) i (bE items) rfl hrow ⟨V2.heap.size,0,none⟩ 1 1 (y.cells (.slice yq y.list.length yd)) rfl rfl (pg V2 _ _ _) (pq _ _ _ _) hmx hmb zm ?_;intro v' w6 hown6 gJ qH qI))
     rw [←uP.out] at hown6
     have YI:Hid (mG W1.heap.size 25 (fun b=>P b∨W1.heap.size≤b) W1 (items++[(y,.slice yq y.list.length yd)]) v' w6):=zl.out.push (x:=(y,.slice yq y.list.length yd)) YF.out HYA.out hown6 gJ qI
     have YJ:Hid ((items++[((y,.slice yq y.list.length yd):VT×Value)]).map (·.1)=(List.zipWith (aT (ai n)) fs l).take (i+1)):=Gj xJ.out HXI.out HT.out HIT.out.symm
     clear hown6 gJ qH qI hrow zm
     go_roundw
     case rel=>exact ⟨i+1,_,by go_num,by omega,YJ.out,YI.out⟩
     case measure=>simp [intOf];omega
  ·obtain rfl:i=m:=by omega
   have HT':Hid (items.map (·.1)=List.zipWith (aT (ai n)) fs l):=by
    have h1:=Hm.out;have h2:=Zz.out
    exact HT.out.trans (List.take_of_length_le (by rw [List.length_zipWith];omega))
   have hil:items.length=i:=by
    have:=congrArg List.length HT'.out
    simp only [List.length_map,List.length_zipWith] at this
    have h1:=Hm.out;have h2:=Zz.out
    omega
   obtain ⟨sp0,sc0,rfl⟩:=gK.out.form
   rw [hil] at gK ⊢
   have HPQ:Hid (mG W1.heap.size 25 (fun b=>P b∨W1.heap.size≤b) W1 (items.take i) (.slice sp0 i sc0) wr):=by rw [←hil,List.take_length,hil];exact gK.out
   have HKZ:Hid (∀ (j:Nat) (x:VT×Value),i≤j→items[j]? =some x→x.1.kind=0):=fun j x hj hx=>by have:=(List.getElem?_eq_some_iff.1 hx).1;omega
   have ES:=ajd hil
   clear HT hi gK hlt hil
   go_wp2
   clear ls
   go_loopw [5] (fun sv wq=>∃ (q:Nat) (sp:Option Addr) (sc:Nat),sv= .slice sp q sc∧q≤i∧Hid (∀ (j:Nat) (x:VT×Value),q≤j→items[j]? =some x→x.1.kind=0)∧Hid (mG W1.heap.size 25 (fun b=>P b∨W1.heap.size≤b) W1 (items.take q) sv wq)) (fun sv _=>match sv with| .slice _ q _=>q|_=>0)
   case atStart=>exact ⟨i,sp0,sc0,rfl,Nat.le_refl _,HKZ.out,HPQ.out⟩
   case round=>
    obtain ⟨q,spq,YP,rfl,hq,HKQ,jh⟩:=hrel
    have hqm:q≤maxLen:=by unfold maxLen;omega
    by_cases hq0:q=0
    ·subst hq0
     have HEX:Hid (0=0∨∃ x,(items.map (·.1))[0-1]? =some x∧x.kind≠0):= .inl rfl
     have Qq:Hid ((items.take 0).length=0):=by show _=0;rw [List.length_take];have:=ES.out;omega
     have HTR:Hid ((items.take 0).map (·.1)=eT (List.zipWith (aT (ai n)) fs l)):=by
      show _=_
      rw [←HT'.out,qX (items.map (·.1)) 0 (by rw [List.length_map];have:=ES.out;omega) (fun j x hj hx=>by
       rw [List.getElem?_map] at hx
       obtain ⟨y,hy,rfl⟩:=Option.map_eq_some_iff.1 hx
       exact HKQ.out j y hj hy) HEX.out,List.map_take]
     have l8:(Instr.loadAt 3 (.pointer (some ⟨w.heap.size,0,none⟩))).run Tryz.prog wr= .ok (.int .i64 k) wr:=aG ((X1.out.below jh.out.below (by omega)).cell (j:=0) rfl)
     have hcv:IntKind.u64.wrap k=k:=by rw [IntKind.wrap_u64];omega
     obtain ⟨W2,hW2⟩:∃ W2,wr.alloc (.cells #[.int .i64 5,.int .u64 k,.string ⟨#[]⟩,.slice none 0 0,.int .i64 0,.int .i64 21,.int .u64 0,.string ⟨#[]⟩,.slice spq 0 YP,.int .i64 0] 25)=W2:=⟨_,rfl⟩
     have zb:Below wr.heap.size wr W2:=by rw [←hW2];exact (Below.refl _ _).alloc (Nat.le_refl _) _
     have x6:=(X2.out.below jh.out.below (by omega)).below zb (by have:=jh.out.Bw;omega)
     have kL:=aD (t:=fK k []) (a:=some ⟨wr.heap.size,0,none⟩) (n:=2) (c:=2) (x6.part (o:=0) (n:=5) (Nat.le_refl _))
     have y6:=x6.all (vs:=(fK k []).cells (.slice (some ⟨wr.heap.size,0,none⟩) 2 2)) rfl
     obtain ⟨X6,BO⟩:∃ X6,W2.setCells (w.heap.size+1) 0 ((fK k []).cells (.slice (some ⟨wr.heap.size,0,none⟩) 2 2))=X6:=⟨_,rfl⟩
     have hend:=jh.out.packed (T2:=25) (b:=w.heap.size+1) (vs:=(fK k []).cells (.slice (some ⟨wr.heap.size,0,none⟩) 2 2)) (k:=k) (X:=X6) (fun b' h=> .inr h) (by
      rintro (h|h)
      ·have:=HP.out _ h;omega
      ·omega) (by rw [Qq.out];exact hqm) hkb rfl (by rw [←BO,←hW2];rfl)
     have hbel:Below w.heap.size w X6:=by
      rw [←BO]
      exact ((HB1.out.trans (jh.out.below.mono (by omega))).trans (zb.mono (by have:=jh.out.Bw;omega))).trans (au (by omega) _ _)
     rw [BO] at kL y6
     have iJ:=ajd (bB y6.1)
     have ET:=ajd hend
     have Qr:=ajd hbel
     replace kL:(Instr.storeAt 25 (.pointer (some ⟨w.heap.size+1,0,none⟩)) (.agg #[.int .i64 24,.int .u64 0,.string ⟨#[]⟩,.slice (some ⟨wr.heap.size,0,none⟩) 2 2,.int .i64 0])).run Tryz.prog W2= .ok () X6:=kL
     clear zb x6 y6 hend hbel BO
     have VS:Hid (Fa P R w (.returned ((fK k []).agg (.slice (some ⟨wr.heap.size,0,none⟩) 2 2))) X6):=by
      obtain ⟨M,hM⟩:=ET.out
      refine ⟨_,M,by rw [HR.out];rfl,?_,Qr.out⟩
      rw [HR.out,←HTR.out]
      exact hM.weak fun b hb _=>hb.elim .inl fun h=> .inr (by omega)
     go_wp2
     exact bodyPost_ret_by (dR rfl rfl iJ.out) rfl VS.out
    ·obtain ⟨q,rfl⟩:∃ q',q=q'+1:=⟨q-1,by omega⟩
     obtain ⟨x,hx⟩:∃ x,items[q]? =some x:=⟨_,List.getElem?_eq_getElem (by have:=ES.out;omega)⟩
     have hxq:(items.take (q+1))[q]? =some x:=by rw [List.getElem?_take_of_lt (by omega)];exact hx
     obtain ⟨g,cc,e,ha, -, -⟩:=jh.out.at hxq
     simp only [Value.slice.injEq] at e
     obtain ⟨rfl, -, -⟩:=e
     have hq1:(0:Int)<((q+1:Nat):Int):=by omega
     have l7:=aG ha.kind
     have hqs:IntKind.i64.wrap ((q:Int)+1-1)=(q:Int):=by rw [IntKind.wrap_i64];omega
     have ah8:((q:Int)+1).toNat=q+1:=by omega
     have hcq:q≤YP:=by have:=jh.out.cap;omega
     clear ha hxq
     by_cases hk0:x.1.kind=0
     ·have YQ:Hid (∀ (j:Nat) (y:VT×Value),q≤j→items[j]? =some y→y.1.kind=0):=fun j y hj hy=>by
       rcases Nat.lt_or_ge q j with h|h
       ·exact HKQ.out j y h hy
       ·obtain rfl:q=j:=by omega
        rw [hx] at hy;cases hy;exact hk0
      have HPN:Hid (mG W1.heap.size 25 (fun b=>P b∨W1.heap.size≤b) W1 (items.take q) (.slice (some ⟨g,0,none⟩) q YP) wr):=by
       have:=jh.out.cut (m:=q) (by omega)
       rwa [List.take_take,Nat.min_eq_left (by omega)] at this
      rw [hk0] at l7
      clear hx hk0
      go_wp2
      exact ⟨⟨q,_,_,rfl,by omega,YQ.out,HPN.out⟩,by simp⟩
     ·have HEX:Hid (q+1=0∨∃ x,(items.map (·.1))[q+1-1]? =some x∧x.kind≠0):= .inr ⟨x.1,by show (items.map (·.1))[q]? =_;rw [List.getElem?_map,hx];rfl,hk0⟩
      have hkk:(x.1.kind==0)=false:=by simp [hk0]
      clear hx
      have Qq:Hid ((items.take (q+1)).length=(q+1)):=by show _=(q+1);rw [List.length_take];have:=ES.out;omega
      have HTR:Hid ((items.take (q+1)).map (·.1)=eT (List.zipWith (aT (ai n)) fs l)):=by
       show _=_
       rw [←HT'.out,qX (items.map (·.1)) (q+1) (by rw [List.length_map];have:=ES.out;omega) (fun j x hj hx=>by
        rw [List.getElem?_map] at hx
        obtain ⟨y,hy,rfl⟩:=Option.map_eq_some_iff.1 hx
        exact HKQ.out j y hj hy) HEX.out,List.map_take]
      have l8:(Instr.loadAt 3 (.pointer (some ⟨w.heap.size,0,none⟩))).run Tryz.prog wr= .ok (.int .i64 k) wr:=aG ((X1.out.below jh.out.below (by omega)).cell (j:=0) rfl)
      have hcv:IntKind.u64.wrap k=k:=by rw [IntKind.wrap_u64];omega
      obtain ⟨W2,hW2⟩:∃ W2,wr.alloc (.cells #[.int .i64 5,.int .u64 k,.string ⟨#[]⟩,.slice none 0 0,.int .i64 0,.int .i64 21,.int .u64 0,.string ⟨#[]⟩,.slice (some ⟨g,0,none⟩) (q+1) YP,.int .i64 0] 25)=W2:=⟨_,rfl⟩
      have zb:Below wr.heap.size wr W2:=by rw [←hW2];exact (Below.refl _ _).alloc (Nat.le_refl _) _
      have x6:=(X2.out.below jh.out.below (by omega)).below zb (by have:=jh.out.Bw;omega)
      have kL:=aD (t:=fK k []) (a:=some ⟨wr.heap.size,0,none⟩) (n:=2) (c:=2) (x6.part (o:=0) (n:=5) (Nat.le_refl _))
      have y6:=x6.all (vs:=(fK k []).cells (.slice (some ⟨wr.heap.size,0,none⟩) 2 2)) rfl
      obtain ⟨X6,BO⟩:∃ X6,W2.setCells (w.heap.size+1) 0 ((fK k []).cells (.slice (some ⟨wr.heap.size,0,none⟩) 2 2))=X6:=⟨_,rfl⟩
      have hend:=jh.out.packed (T2:=25) (b:=w.heap.size+1) (vs:=(fK k []).cells (.slice (some ⟨wr.heap.size,0,none⟩) 2 2)) (k:=k) (X:=X6) (fun b' h=> .inr h) (by
       rintro (h|h)
       ·have:=HP.out _ h;omega
       ·omega) (by rw [Qq.out];exact hqm) hkb rfl (by rw [←BO,←hW2];rfl)
      have hbel:Below w.heap.size w X6:=by
       rw [←BO]
       exact ((HB1.out.trans (jh.out.below.mono (by omega))).trans (zb.mono (by have:=jh.out.Bw;omega))).trans (au (by omega) _ _)
      rw [BO] at kL y6
      have iJ:=ajd (bB y6.1)
      have ET:=ajd hend
      have Qr:=ajd hbel
      replace kL:(Instr.storeAt 25 (.pointer (some ⟨w.heap.size+1,0,none⟩)) (.agg #[.int .i64 24,.int .u64 0,.string ⟨#[]⟩,.slice (some ⟨wr.heap.size,0,none⟩) 2 2,.int .i64 0])).run Tryz.prog W2= .ok () X6:=kL
      clear zb x6 y6 hend hbel BO
      have VS:Hid (Fa P R w (.returned ((fK k []).agg (.slice (some ⟨wr.heap.size,0,none⟩) 2 2))) X6):=by
       obtain ⟨M,hM⟩:=ET.out
       refine ⟨_,M,by rw [HR.out];rfl,?_,Qr.out⟩
       rw [HR.out,←HTR.out]
       exact hM.weak fun b hb _=>hb.elim .inl fun h=> .inr (by omega)
      go_wp2
      exact bodyPost_ret_by (dR rfl rfl iJ.out) rfl VS.out
end Go.Proofs.YtmldhjoolebjoaaGreatDoor.Va
