/-
  The texts R9 Q2 Q3 Q4 of this claim, one behind the other.
-/
import Derived.Test.YtfoiaiblggapeaaGreatDoorZPUB7
import Derived.Test.YtfoiaiblggapeaaGreatDoorZPUB6
import Derived.Test.YtfoiaiblggapeaaGreatDoorZPUA1
set_option maxHeartbeats 40000000
set_option maxRecDepth 100000
namespace Go.Proofs.YtfoiaiblggapeaaGreatDoor.Va
open Go Go.RowKit Nu Uc
def BoolR (r:Ending):Prop:=∃ X:Bool,r= .returned (.bool X)
theorem boolR (X:Bool):BoolR (.returned (.bool X)):=⟨X,rfl⟩
theorem rextra_out (k m:Int) (s:ByteArray) (p:Option Addr) (n c:Nat) (e:Int) (w:World) (hn:n≤9223372036854775807) (h:k<0∨24<k):
 Calls Tryz.prog 126 #[.agg #[.int .i64 k,.int .u64 m,.string s,.slice p n c,.int .i64 e]] w fun r w'=>BoolR r∧Below w.heap.size w w':=by
 have hbox:Hid (∀ o:Obj,Below w.heap.size w (w.alloc o)):=fun o=>(Below.refl _ _).alloc (Nat.le_refl _) _
 rcases h with h|h
 ·have f0:¬1≤k:=by omega
  have f1:¬k=14:=by omega
  have f2:¬17≤k:=by omega
  have f3:¬21≤k:=by omega
  have f4:¬k=23:=by omega
  clear h
  go_enter Tryz.func126,Tryz.ntmps126
  go_wp2
  all_goals
   go_ret
   exact ⟨boolR _,hbox.out _⟩
 ·have f0:1≤k:=by omega
  have f1:¬k≤16:=by omega
  have f2:¬k=14:=by omega
  have f3:17≤k:=by omega
  have f4:¬k≤20:=by omega
  have f5:21≤k:=by omega
  have f6:¬k=23:=by omega
  clear h
  go_enter Tryz.func126,Tryz.ntmps126
  go_wp2
  all_goals
   go_ret
   exact ⟨boolR _,hbox.out _⟩
theorem rextra_any (k m:Int) (s:ByteArray) (p:Option Addr) (n c:Nat) (e:Int) (w:World) (hn:n≤9223372036854775807):
 Calls Tryz.prog 126 #[.agg #[.int .i64 k,.int .u64 m,.string s,.slice p n c,.int .i64 e]] w fun r w'=>(∃ X:Bool,r= .returned (.bool X)∧(0≤k→k≤24→X=extraT k m s e n))∧Below w.heap.size w w':=by
 by_cases h:k<0∨24<k
 ·refine (rextra_out k m s p n c e w hn h).mono ?_
  rintro r w' ⟨⟨X,hX⟩,hb⟩
  exact ⟨⟨X,hX,fun h0 h1=>by omega⟩,hb⟩
 ·refine (rextra_raw k m s p n c e w hn (by omega) (by omega)).mono ?_
  rintro r w' ⟨hX,hb⟩
  exact ⟨⟨_,hX,fun _ _=>rfl⟩,hb⟩
theorem alone_steps {t:VT} {d:Int} {X Y Z M A:Bool} (hX:0≤t.kind→t.kind≤24→X=extraT t.kind t.num t.text t.elem t.list.length) (hY:Y=numT t.kind t.num) (hZ:Z=textT t.kind t.text) (hM:M=mapT t.list) (hA:A=arrT t.elem t.list):
 aloneT t d=if t.kind<0∨24<t.kind then 20 else if 32<d then 26 else if X=true then 25 else if Y=false then 21 else if Z=false then 22 else if t.kind=22∧M=false then 23 else if t.kind=23∧A=false then 24 else if t.kind=24∧t.list.length≠2 then 27 else 0:=by
 unfold aloneT
 by_cases hk:t.kind<0∨24<t.kind
 ·rw [if_pos hk,if_pos hk]
 ·rw [if_neg hk,if_neg hk,hX (by omega) (by omega),hY,hZ,hM,hA]
  simp
attribute [-go_sem] Go.Instr.loadAt Go.Instr.storeAt
theorem rown:OwnS:=by
 intro N B t lv d w hf hl hB hd
 obtain ⟨p,c,rfl⟩:=hl.slice
 have hlen:t.list.length≤9223372036854775807:=hl.len
 obtain ⟨W1,hW1⟩:∃ W1,w.alloc (.cells #[.int .i64 t.kind,.int .u64 t.num,.string t.text,.slice p t.list.length c,.int .i64 t.elem] 42)=W1:=⟨_,rfl⟩
 obtain ⟨b1,b2,b3⟩:=one_block hW1
 have k1:Cells W1 w.heap.size 0 (t.cells (.slice p t.list.length c)):=Cells.of_heap (cs:=t.cells (.slice p t.list.length c)) b1
 have HK:Hid (∀ v,Below (w.heap.size+1) W1 v→(Instr.loadAt 42 (.pointer (some ⟨w.heap.size,0,none⟩))).run Tryz.prog v= .ok (.agg #[.int .i64 t.kind,.int .u64 t.num,.string t.text,.slice p t.list.length c,.int .i64 t.elem]) v∧(Instr.loadAt 3 (.pointer (some ⟨w.heap.size,0,none⟩))).run Tryz.prog v= .ok (.int .i64 t.kind) v∧
  (Instr.loadAt 31 (.pointer (some ⟨w.heap.size,3,none⟩))).run Tryz.prog v= .ok (.slice p t.list.length c) v∧Below w.heap.size w v∧LAt B v N (.slice p t.list.length c) t.list∧B≤v.heap.size):=fun v h=>by
  have hc:∀ j u,(t.cells (.slice p t.list.length c))[j]? =some u→v.cell? ⟨w.heap.size,j,none⟩=some u:=fun j u hu=>(h.cell (p:=⟨w.heap.size,j,none⟩) (Nat.lt_succ_self _)).trans (wcell_of k1 j u hu)
  have hb:=b3.trans (h.mono (Nat.le_succ _))
  refine ⟨wload_value (t:=t) (lv:= .slice p t.list.length c) fun j u hu=>by rw [Nat.zero_add];exact hc j u hu,rload_int (hc 0 _ rfl),wload_slice (hc 3 _ rfl),hb,hl.below (hb.mono hB),by have:=hb.size;omega⟩
 have HE:=Lib.hid (fun w=>rextra_any t.kind t.num t.text p t.list.length c t.elem w hlen)
 have HN:=Lib.hid (fun w=>rnumber_raw t.kind t.num t.text (.slice p t.list.length c) t.elem w hf.n0 hf.n1)
 have HT:=Lib.hid (fun w=>rspelled_raw t.kind t.num t.text (.slice p t.list.length c) t.elem w (by have:=hf.x1;unfold maxLen at this;omega))
 have HM:=Lib.hid (fun w (h:LAt B w N (.slice p t.list.length c) t.list) (hB:B≤w.heap.size)=>rmapped t.list (.slice p t.list.length c) w h hB)
 have HA:Hid (∀ w,LAt B w N (.slice p t.list.length c) t.list→B≤w.heap.size→Calls Tryz.prog 130 #[.agg #[.int .i64 t.kind,.int .u64 t.num,.string t.text,.slice p t.list.length c,.int .i64 t.elem]] w fun r w'=>r= .returned (.bool (arrT t.elem t.list))∧Below w.heap.size w w'):=fun w h hB=>rarrayed t (.slice p t.list.length c) w h hB
 obtain ⟨l0,_⟩:=HK.out W1 (Below.refl _ _)
 obtain ⟨Y,hY⟩:∃ Y,numT t.kind t.num=Y:=⟨_,rfl⟩
 obtain ⟨Z,hZ⟩:∃ Z,textT t.kind t.text=Z:=⟨_,rfl⟩
 obtain ⟨M,hM⟩:∃ M,mapT t.list=M:=⟨_,rfl⟩
 obtain ⟨A,hA⟩:∃ A,arrT t.elem t.list=A:=⟨_,rfl⟩
 have HS:Hid (∀ X:Bool,(0≤t.kind→t.kind≤24→X=extraT t.kind t.num t.text t.elem t.list.length)→aloneT t d=if t.kind<0∨24<t.kind then 20 else if 32<(d:Int) then 26 else if X=true then 25 else if Y=false then 21 else if Z=false then 22 else if t.kind=22∧M=false then 23 else if t.kind=23∧A=false then 24 else if t.kind=24∧t.list.length≠2 then 27 else 0):=fun X hX=>alone_steps hX hY.symm hZ.symm hM.symm hA.symm
 rw [hY] at HN
 rw [hZ] at HT
 rw [hM] at HM
 rw [hA] at HA
 obtain ⟨R,hR⟩:∃ R,aloneT t d=R:=⟨_,rfl⟩
 rw [hR] at HS ⊢
 clear hR hY hZ hM hA hf hl b1 b3 k1
 obtain ⟨n,hn⟩:∃ n,t.list.length=n:=⟨_,rfl⟩
 rw [hn] at hlen hW1 HK l0 HE HN HT HM HA HS ⊢
 clear hn
 obtain ⟨kk,hkk⟩:∃ kk,t.kind=kk:=⟨_,rfl⟩
 have ek:(t.agg (.slice p n c))= .agg #[.int .i64 kk,.int .u64 t.num,.string t.text,.slice p n c,.int .i64 t.elem]:=by rw [←hkk]
 rw [ek]
 rw [hkk] at hW1 HK l0 HE HN HT HA HS
 clear hkk ek
 go_enter Tryz.func114,Tryz.ntmps114
 go_wp2_with (fail)
 clear hW1 l0
 refine (HE.out W1).mono ?_
 rintro r w2 ⟨⟨X,rfl,hX⟩,hb2⟩
 have HS2:=Lib.hid (HS.out X hX)
 have B2:=Lib.hid (hb2.mono (Nat.le_of_eq b2.symm))
 clear hX hb2 HS HE
 obtain ⟨l1,_⟩:=HK.out w2 B2.out
 go_wp2_with (fail)
 refine (HN.out w2).mono ?_
 rintro r w3 ⟨rfl,hb3⟩
 have B3:=Lib.hid (B2.out.trans (hb3.mono (by have:=B2.out.size;omega)))
 clear hb3 HN l1
 obtain ⟨l1,_⟩:=HK.out w3 B3.out
 go_wp2_with (fail)
 refine (HT.out w3).mono ?_
 rintro r w4 ⟨rfl,hb4⟩
 have B4:=Lib.hid (B3.out.trans (hb4.mono (by have:=B3.out.size;omega)))
 clear hb4 HT l1
 obtain ⟨l1,l2,l3,hbw,hL4,hB4⟩:=HK.out w4 B4.out
 have BW:=Lib.hid hbw
 clear hbw
 have fin:∀ (v:Value) (q:Int),R=q→v= .int .i64 q→Ending.returned v= .returned (.int .i64 R):=fun v q h1 h2=>by rw [h1,h2]
 have FIN:=Lib.hid fin
 clear fin
 by_cases hk:kk<0∨24<kk
 ·have HR:Hid (R=20):=HS2.out.trans (if_pos hk)
  rcases hk with hk|hk
  ·go_wp2
   go_ret
   exact ⟨FIN.out _ _ HR.out rfl,BW.out⟩
  ·have hk2:¬kk<0:=by omega
   have hk3:25≤kk:=by omega
   go_wp2
   go_ret
   exact ⟨FIN.out _ _ HR.out rfl,BW.out⟩
 ·have HS3:Hid _:=HS2.out.trans (if_neg hk)
  have hk2:¬kk<0:=by omega
  have hk3:¬25≤kk:=by omega
  clear hk HS2
  by_cases hd:32<(d:Int)
  ·have HR:Hid (R=26):=HS3.out.trans (if_pos hd)
   go_wp2
   go_ret
   exact ⟨FIN.out _ _ HR.out rfl,BW.out⟩
  ·have HS2:Hid _:=HS3.out.trans (if_neg hd)
   clear HS3
   cases X with
   |true=>
    have HR:Hid (R=25):=HS2.out.trans (if_pos rfl)
    go_wp2
    go_ret
    exact ⟨FIN.out _ _ HR.out rfl,BW.out⟩
   |false=>
    have HS3:Hid _:=HS2.out.trans (if_neg (by simp))
    clear HS2
    cases Y with
    |false=>
     have HR:Hid (R=21):=HS3.out.trans (if_pos rfl)
     go_wp2
     go_ret
     exact ⟨FIN.out _ _ HR.out rfl,BW.out⟩
    |true=>
     have HS2:Hid _:=HS3.out.trans (if_neg (by simp))
     clear HS3
     cases Z with
     |false=>
      have HR:Hid (R=22):=HS2.out.trans (if_pos rfl)
      go_wp2
      go_ret
      exact ⟨FIN.out _ _ HR.out rfl,BW.out⟩
     |true=>
      have HS3:Hid _:=HS2.out.trans (if_neg (by simp))
      clear HS2
      by_cases k22:kk=22
      ·subst k22
       have HMC:=Lib.hid (HM.out w4 hL4 hB4)
       cases M with
       |false=>
        have HR:Hid (R=23):=HS3.out.trans (if_pos ⟨rfl,rfl⟩)
        clear HM HA hL4
        go_wp2_with (go_at_call 129;refine HMC.out.mono ?_;rintro r w5 ⟨rfl,hb5⟩)
        go_ret
        exact ⟨FIN.out _ _ HR.out rfl,BW.out.trans (hb5.mono BW.out.size)⟩
       |true=>
        have HR:Hid (R=0):=HS3.out.trans (by simp)
        clear HM HA hL4
        go_wp2_with (go_at_call 129;refine HMC.out.mono ?_;rintro r w5 ⟨rfl,hb5⟩)
        go_ret
        exact ⟨FIN.out _ _ HR.out rfl,BW.out.trans (hb5.mono BW.out.size)⟩
      by_cases k23:kk=23
      ·subst k23
       have HAC:=Lib.hid (HA.out w4 hL4 hB4)
       cases A with
       |false=>
        have HR:Hid (R=24):=HS3.out.trans (by simp)
        clear HM HA hL4
        go_wp2_with (go_at_call 130;refine HAC.out.mono ?_;rintro r w5 ⟨rfl,hb5⟩)
        go_ret
        exact ⟨FIN.out _ _ HR.out rfl,BW.out.trans (hb5.mono BW.out.size)⟩
       |true=>
        have HR:Hid (R=0):=HS3.out.trans (by simp)
        clear HM HA hL4
        go_wp2_with (go_at_call 130;refine HAC.out.mono ?_;rintro r w5 ⟨rfl,hb5⟩)
        go_ret
        exact ⟨FIN.out _ _ HR.out rfl,BW.out.trans (hb5.mono BW.out.size)⟩
      by_cases k24:kk=24
      ·subst k24
       by_cases hn2:n=2
       ·subst hn2
        have HR:Hid (R=0):=HS3.out.trans (by simp)
        go_wp2
        go_ret
        exact ⟨FIN.out _ _ HR.out rfl,BW.out⟩
       ·have HR:Hid (R=27):=HS3.out.trans (by simp [hn2])
        have hne:((n:Int)!=2)=true:=by simp;omega
        clear hn2
        go_wp2
        go_ret
        exact ⟨FIN.out _ _ HR.out rfl,BW.out⟩
      ·have HR:Hid (R=0):=HS3.out.trans (by simp [k22,k23,k24])
       go_wp2
       go_ret
       exact ⟨FIN.out _ _ HR.out rfl,BW.out⟩
theorem rcheck_raw {N B:Nat} (t:VT) (lv:Value) (w:World) (hf:t.Fine) (hl:LAt B w N lv t.list) (hB:B≤w.heap.size) (hn:nodes t≤900000000):
 Calls Tryz.prog 48 #[t.agg lv] w fun r w'=>r= .returned (.int .i64 (checkT t 1))∧Below w.heap.size w w':=by
 obtain ⟨p,c,rfl⟩:=hl.slice
 obtain ⟨W1,hW1⟩:∃ W1,w.alloc (.cells #[.int .i64 t.kind,.int .u64 t.num,.string t.text,.slice p t.list.length c,.int .i64 t.elem] 42)=W1:=⟨_,rfl⟩
 obtain ⟨b1,b2,b3⟩:=one_block hW1
 have k1:Cells W1 w.heap.size 0 (t.cells (.slice p t.list.length c)):=Cells.of_heap (cs:=t.cells (.slice p t.list.length c)) b1
 have l0:=wload_value k1
 have HC:Hid (Calls Tryz.prog 95 #[.agg #[.int .i64 t.kind,.int .u64 t.num,.string t.text,.slice p t.list.length c,.int .i64 t.elem],.int .i64 1] W1 fun r w'=>r= .returned (.int .i64 (checkT t 1))∧Below W1.heap.size W1 w'):=rchecks rown N B t (.slice p t.list.length c) 1 W1 hf (hl.below (b3.mono hB)) (by omega) (by omega)
 have HB:=Lib.hid b3
 have hz:=b3.size
 obtain ⟨R,hR⟩:∃ R,checkT t 1=R:=⟨_,rfl⟩
 rw [hR] at HC ⊢
 clear hR hl hf b1 b3 k1
 go_enter Tryz.func48,Tryz.ntmps48
 go_wp2_with (fail)
 clear l0 hW1
 refine HC.out.mono ?_
 rintro r w2 ⟨rfl,hb2⟩
 have HB2:=Lib.hid (HB.out.trans (hb2.mono hz))
 clear hb2 HC
 go_wp2
 go_ret
 exact ⟨rfl,HB2.out⟩
end Go.Proofs.YtfoiaiblggapeaaGreatDoor.Va
namespace Go.Proofs.YtfoiaiblggapeaaGreatDoor.Va
open Go Go.RowKit Nu Uc Fd Go.Proofs.YtfoiaiblggapeaaGreatDoor.Nm
attribute [-go_sem] Go.Instr.loadAt Go.Instr.storeAt
def RUn (n:Nat):Prop:=∀ (P:Nat→Prop) (N:Nat) (t:VT) (lv:Value) (w:World),(∀ b,P b→b<w.heap.size)→Env w→t.Fine→LAtP P w N lv t.list→rkO (kindOf t)≤n→(nodes t+13)*2^(n+1)≤800000000→
    Calls Tryz.prog 27 #[t.agg lv] w fun r w'=>RUnAns P (unR n t) w r w'
def RPkAns (P:Nat→Prop) (v:VT) (w:World) (r:Ending) (w':World):Prop:=∃ lv' M,r= .returned (v.agg lv')∧LAtP (fun b=>P b∨w.heap.size≤b) w' M lv' v.list∧Below w.heap.size w w'
def RPk (n:Nat):Prop:=∀ (P:Nat→Prop) (lo hi N:Nat) (k:Int) (fs:List FT) (l:List VT) (lv fv:Value) (w:World),(∀ b,P b→b<w.heap.size)→Env w→fieldsT k=some fs→l.length=fs.length→FsOwn lo hi w fv fs→LAtP P w N lv l→rk k≤n→(nodesL l+13)*2^n≤800000000→GoodL n fs l→
    Calls Tryz.prog 42 #[.agg #[.int .i64 k,lv],fv] w fun r w'=>RPkAns P (packF n k l) w r w'
def errU (a:Except (Nat×Int) (Int×List VT)):Int:=match a with| .error e=>e.2| .ok _=>0
theorem fieldC_steps (rd:Rd) (f:FT) (t:VT):fieldC rd f t=if t.kind=0∧f.must=true then 72 else if checkT t 1≠0∨t.kind=0 then checkT t 1 else if wantedT f t=false then 73 else errI (rd f t):=by
 unfold fieldC errI
 cases rd f t<;>rfl
theorem errI_plain {n:Nat} {f:FT} {t:VT} (h:f.type≠102):errI (readF n f t)=0:=by rw [readF_plain n f t h];rfl
theorem errI_comp {m:Nat} {f:FT} {t:VT} (h:f.type=102) (hc:checkT t 1=0):errI (readF (m+1) f t)=errU (unR m t):=by
 have e1:readF (m+1) f t=readG (unpackG (readF m)) (packG (readF m)) f t:=rfl
 have e2:unR m t=unpackG (readF m) t:=if_neg (by simp [hc])
 rw [e1,e2]
 unfold readG
 rw [if_pos h]
 cases unpackG (readF m) t<;>rfl
theorem suits_any {n lo hi N:Nat} {P:Nat→Prop} (hU:∀ m,n=m+1→RUn m) (f:FT) (kv:Value) (t:VT) (lv:Value) (w:World) (hPw:∀ b,P b→b<w.heap.size) (hE:Env w) (hk:KsOwn lo hi w kv f.kinds) (hkl:f.kinds.length≤1000) (hft:t.Fine) (hl:LAtP P w N lv t.list) (hrk:f.type=102→wantedT f t=true→rkO (kindOf t)<n) (hnd:(nodes t+13)*2^n≤800000000):
 Calls Tryz.prog 41 #[fagg f kv,t.agg lv] w fun r w'=>r= .returned (.int .i64 (fieldC (readF n) f t))∧Below w.heap.size w w':=by
 have hnd2:nodes t≤800000000:=by have:=Nat.le_mul_of_pos_right (nodes t+13) (Nat.two_pow_pos n);omega
 obtain ⟨p,c,rfl⟩:=hl.slice
 obtain ⟨kp,kc,rfl,hku⟩:=hk.view
 obtain ⟨W1,hW1⟩:∃ W1,(w.alloc (.cells #[.string ⟨f.name.toArray⟩,.int .i64 f.type,.slice kp f.kinds.length kc,.bool f.must,.int .i64 f.dk,.int .u64 f.dn,.string ⟨f.dt.toArray⟩,.slice none 0 0,.int .i64 0] 65)).alloc (.cells #[.int .i64 t.kind,.int .u64 t.num,.string t.text,.slice p t.list.length c,.int .i64 t.elem] 42)=W1:=⟨_,rfl⟩
 obtain ⟨x1,x2,hz1,hb1⟩:=two_boxes (cs:=fcell f (.slice kp f.kinds.length kc)) (ds:=t.cells (.slice p t.list.length c)) hW1
 have l1:=pload_int (x2.cell (j:=0) rfl)
 have l2:=pload_bool (x1.cell (j:=3) rfl)
 have l3:=wload_value x2.1
 have hl1:LAtP P W1 N (.slice p t.list.length c) t.list:=hl.below hb1
 have HCK:=Lib.hid (rcheck_raw t (.slice p t.list.length c) W1 hft hl1.lat (Nat.le_refl _) (by omega))
 have HB1:=Lib.hid hb1
 have HVV:Hid (∀ v,Below W1.heap.size W1 v→Env v∧LAtP P v N (.slice p t.list.length c) t.list∧KsOwn lo hi v (.slice kp f.kinds.length kc) f.kinds∧W1.heap.size≤v.heap.size):=fun v h=>⟨(hE.below hb1).below h,hl1.below h,(hk.below hb1).below h,h.size⟩
 have HLD:Hid (∀ v,Below W1.heap.size W1 v→(Instr.loadAt 65 (.pointer (some ⟨w.heap.size,0,none⟩))).run Tryz.prog v= .ok (fagg f (.slice kp f.kinds.length kc)) v∧(Instr.loadAt 42 (.pointer (some ⟨w.heap.size+1,0,none⟩))).run Tryz.prog v= .ok (t.agg (.slice p t.list.length c)) v∧(Instr.loadAt 3 (.pointer (some ⟨w.heap.size+1,0,none⟩))).run Tryz.prog v= .ok (.int .i64 t.kind) v∧(Instr.loadAt 3 (.pointer (some ⟨w.heap.size,1,none⟩))).run Tryz.prog v= .ok (.int .i64 f.type) v):=fun v h=>
  ⟨pload_field (x1.below h (by omega)).1,wload_value (x2.below h (by omega)).1,pload_int ((x2.below h (by omega)).cell (j:=0) rfl),pload_int ((x1.below h (by omega)).cell (j:=1) rfl)⟩
 have HU:=Lib.hid hU
 have HP:=Lib.hid hPw
 have HRK:=Lib.hid hrk
 have HND:=Lib.hid hnd
 have HFT:=Lib.hid hft
 have HFC:=Lib.hid (fieldC_steps (readF n) f t)
 obtain ⟨R,hR⟩:∃ R,fieldC (readF n) f t=R:=⟨_,rfl⟩
 obtain ⟨C,hC⟩:∃ C,checkT t 1=C:=⟨_,rfl⟩
 rw [hR] at HFC ⊢
 rw [hC] at HFC HCK
 have HCC:=Lib.hid hC
 clear hl hk hE x1 x2 hku hU hPw hrk hnd hR hC hft hl1 hb1
 show Calls Tryz.prog 41 #[.agg #[.string ⟨f.name.toArray⟩,.int .i64 f.type,.slice kp f.kinds.length kc,.bool f.must,.int .i64 f.dk,.int .u64 f.dn,.string ⟨f.dt.toArray⟩,.slice none 0 0,.int .i64 0],.agg #[.int .i64 t.kind,.int .u64 t.num,.string t.text,.slice p t.list.length c,.int .i64 t.elem]] w _
 by_cases hm:t.kind=0∧f.must=true
 ·have HRE:Hid (R=72):=HFC.out.trans (if_pos hm)
  rw [hm.1] at l1
  rw [hm.2] at l2
  clear hm
  go_enter Tryz.func41,Tryz.ntmps41
  go_wp2
  go_ret
  exact ⟨pint HRE.out.symm,HB1.out⟩
 have HFC2:=Lib.hid (HFC.out.trans (if_neg hm))
 by_cases hk0:t.kind=0
 ·have hmf:f.must=false:=by
   cases h:f.must with
   |false=>rfl
   |true=>exact absurd ⟨hk0,h⟩ hm
  have HRE:Hid (R=C):=HFC2.out.trans (if_pos (.inr hk0))
  have HKZ:Hid (∀ v,Below W1.heap.size W1 v→(Instr.loadAt 3 (.pointer (some ⟨w.heap.size+1,0,none⟩))).run Tryz.prog v= .ok (.int .i64 0) v):=fun v h=>by
   have:=(HLD.out v h).2.2.1
   rwa [hk0] at this
  rw [hk0] at l1
  rw [hmf] at l2
  clear hm hmf hk0
  by_cases hC0:C=0
  ·subst hC0
   go_enter Tryz.func41,Tryz.ntmps41
   go_wp2_with (go_at_call 48;refine HCK.out.mono ?_;rintro r w2 ⟨rfl,hb2⟩;have HB2:=Lib.hid (HB1.out.trans (hb2.mono (by omega)));have l4:=HKZ.out w2 hb2;clear hb2)
   go_ret
   exact ⟨pint HRE.out.symm,HB2.out⟩
  ·have hcb:(C !=0)=true:=by simp [hC0]
   clear hC0
   go_enter Tryz.func41,Tryz.ntmps41
   go_wp2_with (go_at_call 48;refine HCK.out.mono ?_;rintro r w2 ⟨rfl,hb2⟩;have HB2:=Lib.hid (HB1.out.trans (hb2.mono (by omega)));have l4:=HKZ.out w2 hb2;clear hb2)
   go_ret
   exact ⟨pint HRE.out.symm,HB2.out⟩
 have hkb:(t.kind==0)=false:=by simp [hk0]
 have HK0:=Lib.hid hk0
 clear hm hk0
 by_cases hC0:C=0
 case neg=>
  have HRE:Hid (R=C):=HFC2.out.trans (if_pos (.inl hC0))
  have hcb:(C !=0)=true:=by simp [hC0]
  clear hC0
  go_enter Tryz.func41,Tryz.ntmps41
  go_wp2_with (go_at_call 48;refine HCK.out.mono ?_;rintro r w2 ⟨rfl,hb2⟩;have HB2:=Lib.hid (HB1.out.trans (hb2.mono (by omega)));clear hb2)
  all_goals
   go_ret
   exact ⟨pint HRE.out.symm,HB2.out⟩
 subst hC0
 have HFC3:=Lib.hid (HFC2.out.trans (if_neg (by rintro (h|h);exact h rfl;exact HK0.out h)))
 obtain ⟨Z,hZ⟩:∃ Z,wantedT f t=Z:=⟨_,rfl⟩
 have HZZ:=Lib.hid hZ
 rw [hZ] at HFC3
 go_enter Tryz.func41,Tryz.ntmps41
 go_wp2_with (go_at_call 48;refine HCK.out.mono ?_;rintro r w2 ⟨rfl,hb2⟩;have HB2:=Lib.hid hb2;obtain ⟨l5,l6,l4,_⟩:=HLD.out w2 hb2;have HWT:Hid (Calls Tryz.prog 91 #[fagg f (.slice kp f.kinds.length kc),t.agg (.slice p t.list.length c)] w2 fun r w'=>r= .returned (.bool Z)∧Below w2.heap.size w2 w'):=(by obtain ⟨v1,v2,v3,_⟩:=HVV.out w2 hb2;have:=fits_any f (.slice kp f.kinds.length kc) t (.slice p t.list.length c) w2 v1 v3 hkl HFT.out v2.lat (Nat.le_refl _);rw [hZ] at this;exact this);clear hb2)
 refine HWT.out.mono ?_
 rintro r V ⟨rfl,hbv⟩
 have HBV2:=Lib.hid (HB2.out.trans (hbv.mono HB2.out.size))
 have HBV:=Lib.hid (HB1.out.trans (HBV2.out.mono (by omega)))
 have hzV:W1.heap.size≤V.heap.size:=HBV2.out.size
 obtain ⟨_,m6,_,m7⟩:=HLD.out V HBV2.out
 clear hbv
 cases Z with
 |false=>
  have HRE:Hid (R=73):=HFC3.out.trans (if_pos rfl)
  go_wp2
  go_ret
  exact ⟨pint HRE.out.symm,HBV.out⟩
 |true=>
  have HFC4:=Lib.hid (HFC3.out.trans (if_neg (by simp)))
  by_cases h102:f.type=102
  case neg=>
   have HRE:Hid (R=0):=HFC4.out.trans (errI_plain h102)
   have htb:(f.type==102)=false:=by simp [h102]
   clear h102
   go_wp2
   go_ret
   exact ⟨pint HRE.out.symm,HBV.out⟩
  have hrk2:=HRK.out h102 HZZ.out
  obtain ⟨m,rfl⟩:∃ m,n=m+1:=⟨n-1,by omega⟩
  have HRE0:Hid (R=errU (unR m t)):=HFC4.out.trans (errI_comp h102 HCC.out)
  have htb:(f.type==102)=true:=by simp [h102]
  have HUN:Hid (Calls Tryz.prog 27 #[t.agg (.slice p t.list.length c)] V fun r w'=>RUnAns P (unR m t) V r w'):=HU.out m rfl P N t _ V (fun b h=>Nat.lt_of_lt_of_le (HP.out b h) HBV.out.size) (HVV.out V HBV2.out).1 HFT.out (HVV.out V HBV2.out).2.1 (by omega) HND.out
  obtain ⟨a,ha⟩:∃ a,unR m t=a:=⟨_,rfl⟩
  rw [ha] at HUN HRE0
  clear ha h102 hrk2
  go_wp2_with (fail)
  refine HUN.out.mono ?_
  rintro r w4 ⟨hb4,hans⟩
  obtain ⟨x4,hz4,hba4⟩:=one_box (w:=w4) (cs:=[.int .i64 0,.slice none 0 0]) (T:=33) rfl
  have hz:=hb4.size
  have hzb:=HBV.out.size
  have HB4:=Lib.hid (HBV.out.trans (hb4.mono HBV.out.size))
  clear hb4
  cases a with
  |error q=>
   obtain ⟨i,e⟩:=q
   subst hans
   have HRE:Hid (R=e):=HRE0.out
   obtain ⟨X5,hs5,_,_,hb5,hz5,_⟩:=rec_store x4 rfl 0 none 0 0
   have HB5:=Lib.hid (HB4.out.trans ((hba4.trans hb5).mono (by omega)))
   clear hb5 x4 hba4
   go_wp2
   go_ret
   exact ⟨pint HRE.out.symm,HB5.out⟩
  |ok q=>
   obtain ⟨k,l⟩:=q
   obtain ⟨lv5,M5,rfl,ho5⟩:=hans
   obtain ⟨q5,c5,rfl⟩:=ho5.slice
   have HRE:Hid (R=0):=HRE0.out
   obtain ⟨X5,hs5,_,_,hb5,hz5,_⟩:=rec_store x4 rfl k q5 l.length c5
   have HB5:=Lib.hid (HB4.out.trans ((hba4.trans hb5).mono (by omega)))
   clear hb5 x4 hba4 ho5
   go_wp2
   go_ret
   exact ⟨pint HRE.out.symm,HB5.out⟩
theorem three_boxes {w W1:World} {cs ds es:List Value} {T T' T'':TypeId} (h:((w.alloc (.cells cs.toArray T)).alloc (.cells ds.toArray T')).alloc (.cells es.toArray T'')=W1):Box W1 w.heap.size cs∧Box W1 (w.heap.size+1) ds∧Box W1 (w.heap.size+2) es∧W1.heap.size=w.heap.size+3∧Below w.heap.size w W1:=by
 subst h
 obtain ⟨x1,x2,hz,hb⟩:=two_boxes (w:=w) (cs:=cs) (ds:=ds) (T:=T) (T':=T') rfl
 obtain ⟨x3,hz3,hb3⟩:=one_box (w:=(w.alloc (.cells cs.toArray T)).alloc (.cells ds.toArray T')) (cs:=es) (T:=T'') rfl
 exact ⟨x1.below hb3 (by omega),x2.below hb3 (by omega),by rw [hz] at x3;exact x3,by omega,hb.trans (hb3.mono (by omega))⟩
def errV (n:Nat) (f:FT) (t:VT) (m:Nat) (a:Except (Nat×Int) (Int×List VT)):Prop:=readF n f t=match a with| .error e=> .error e.2| .ok a=> .ok (packF m a.1 a.2)
theorem errV_of {m:Nat} {f:FT} {t:VT} (h:f.type=102) (hc:checkT t 1=0):errV (m+1) f t m (unR m t):=by
 have e1:readF (m+1) f t=readG (unpackG (readF m)) (packG (readF m)) f t:=rfl
 have e2:unR m t=unpackG (readF m) t:=if_neg (by simp [hc])
 unfold errV
 rw [e1,e2]
 unfold readG
 rw [if_pos h]
 cases unpackG (readF m) t<;>rfl
theorem RItAns.same {P:Nat→Prop} {N:Nat} {a:Except Int VT} {t:VT} {lv:Value} {w w':World} (ha:a= .ok t) (hf:t.Fine) (hl:LAtP P w' N lv t.list) (hb:Below w.heap.size w w') (z:Value):RItAns P a z w (.returned (.tuple #[t.agg lv,.int .i64 0])) w':=by
 subst ha
 exact ⟨hb,lv,N,rfl,hf,hl.weak fun b h _=> .inl h⟩
theorem RItAns.bad {P:Nat→Prop} {a:Except Int VT} {z:Value} {e:Int} {w w':World} (ha:a= .error e) (hb:Below w.heap.size w w'):RItAns P a z w (.returned (.tuple #[z,.int .i64 e])) w':=by
 subst ha
 exact ⟨hb,rfl⟩
theorem unpacked_any {n lo hi N:Nat} {P:Nat→Prop} (hU:∀ m,n=m+1→RUn m∧RPk m) (f:FT) (kv:Value) (t:VT) (lv:Value) (w:World) (hPw:∀ b,P b→b<w.heap.size) (hE:Env w) (hk:KsOwn lo hi w kv f.kinds) (hkl:f.kinds.length≤1000) (hlit:0≤f.dn∧f.dn≤18446744073709551615∧0≤f.dk∧f.dk≤100∧f.dt.length≤100) (hft:t.Fine) (hl:LAtP P w N lv t.list) (hc:checkT t 1=0) (hrk:f.type=102→wantedT f t=true→rkO (kindOf t)<n) (hnd:(nodes t+13)*2^n≤800000000):
 Calls Tryz.prog 50 #[fagg f kv,t.agg lv] w fun r w'=>RItAns P (itemG (readF n) f t) (t.agg lv) w r w':=by
 obtain ⟨p,c,rfl⟩:=hl.slice
 obtain ⟨kp,kc,rfl,hku⟩:=hk.view
 obtain ⟨W1,hW1⟩:∃ W1,((w.alloc (.cells #[.string ⟨f.name.toArray⟩,.int .i64 f.type,.slice kp f.kinds.length kc,.bool f.must,.int .i64 f.dk,.int .u64 f.dn,.string ⟨f.dt.toArray⟩,.slice none 0 0,.int .i64 0] 65)).alloc (.cells #[.int .i64 t.kind,.int .u64 t.num,.string t.text,.slice p t.list.length c,.int .i64 t.elem] 42)).alloc (.cells #[.int .i64 0,.int .u64 0,.string ⟨#[]⟩,.slice none 0 0,.int .i64 0] 42)=W1:=⟨_,rfl⟩
 obtain ⟨x1,x2,x3,hz1,hb1⟩:=three_boxes (cs:=fcell f (.slice kp f.kinds.length kc)) (ds:=t.cells (.slice p t.list.length c)) (es:=zeroT.cells (.slice none 0 0)) hW1
 have l1:=pload_int (x2.cell (j:=0) rfl)
 have l2:=pload_bool (x1.cell (j:=3) rfl)
 have l3:=wload_value x2.1
 have l4:=pload_int (x1.cell (j:=1) rfl)
 have l5:=pload_field x1.1
 have l6:(Instr.loadAt 42 (.pointer (some ⟨w.heap.size,4,none⟩))).run Tryz.prog W1= .ok (.agg #[.int .i64 f.dk,.int .u64 f.dn,.string ⟨f.dt.toArray⟩,.slice none 0 0,.int .i64 0]) W1:=wload_value (t:=f.dflt) (lv:= .slice none 0 0) fun j u hu=>by
  have:=x1.1 (4+j) u (by
   match j,hu with
   |0,hu=>exact hu
   |1,hu=>exact hu
   |2,hu=>exact hu
   |3,hu=>exact hu
   |4,hu=>exact hu
   |j+5,hu=>simp [VT.cells] at hu)
  rwa [Nat.zero_add] at this
 have hl1:LAtP P W1 N (.slice p t.list.length c) t.list:=hl.below hb1
 have HB1:=Lib.hid hb1
 have X3:=Lib.hid x3
 have HVV:Hid (∀ v,Below W1.heap.size W1 v→Env v∧LAtP P v N (.slice p t.list.length c) t.list∧KsOwn lo hi v (.slice kp f.kinds.length kc) f.kinds∧W1.heap.size≤v.heap.size):=fun v h=>⟨(hE.below hb1).below h,hl1.below h,(hk.below hb1).below h,h.size⟩
 have HLD:Hid (∀ v,Below W1.heap.size W1 v→(Instr.loadAt 65 (.pointer (some ⟨w.heap.size,0,none⟩))).run Tryz.prog v= .ok (fagg f (.slice kp f.kinds.length kc)) v∧(Instr.loadAt 42 (.pointer (some ⟨w.heap.size+1,0,none⟩))).run Tryz.prog v= .ok (t.agg (.slice p t.list.length c)) v∧(Instr.loadAt 3 (.pointer (some ⟨w.heap.size,1,none⟩))).run Tryz.prog v= .ok (.int .i64 f.type) v∧Box v (w.heap.size+2) (zeroT.cells (.slice none 0 0))):=fun v h=>
  ⟨pload_field (x1.below h (by omega)).1,wload_value (x2.below h (by omega)).1,pload_int ((x1.below h (by omega)).cell (j:=1) rfl),x3.below h (by omega)⟩
 have HPUT:Hid (∀ v,Below W1.heap.size W1 v→∃ X,(Instr.storeAt 42 (.pointer (some ⟨w.heap.size+2,0,none⟩)) (.agg #[.int .i64 t.kind,.int .u64 t.num,.string t.text,.slice p t.list.length c,.int .i64 t.elem])).run Tryz.prog v= .ok () X∧(loadVar 42 ⟨w.heap.size+2,0,none⟩).run Tryz.prog X= .ok (t.agg (.slice p t.list.length c)) X∧Below w.heap.size w X∧LAtP P X N (.slice p t.list.length c) t.list):=fun v h=>by
  obtain ⟨X,h1,h2,h3,h4,h5⟩:=val_store (x3.below h (by omega)) rfl t p t.list.length c
  have hbx:Below w.heap.size w X:=(hb1.trans (h.mono (by omega))).trans (h3.mono (by omega))
  exact ⟨X,h1,h2,hbx,hl.below hbx⟩
 have HLW:Hid (∀ X,Below w.heap.size w X→LAtP P X N (.slice p t.list.length c) t.list):=fun X h=>hl.below h
 have HU:=Lib.hid hU
 have HP:=Lib.hid hPw
 have HRK:=Lib.hid hrk
 have HND:=Lib.hid hnd
 have HFT:=Lib.hid hft
 have HCK:=Lib.hid hc
 have HLIT:=Lib.hid hlit
 obtain ⟨R,hR⟩:∃ R,itemG (readF n) f t=R:=⟨_,rfl⟩
 have HR:=Lib.hid hR
 rw [hR]
 clear hl hk hE x1 x2 x3 hku hU hPw hrk hnd hR hft hl1 hb1 hc hlit
 show Calls Tryz.prog 50 #[.agg #[.string ⟨f.name.toArray⟩,.int .i64 f.type,.slice kp f.kinds.length kc,.bool f.must,.int .i64 f.dk,.int .u64 f.dn,.string ⟨f.dt.toArray⟩,.slice none 0 0,.int .i64 0],.agg #[.int .i64 t.kind,.int .u64 t.num,.string t.text,.slice p t.list.length c,.int .i64 t.elem]] w _
 by_cases hk0:t.kind=0
 ·cases hm:f.must with
  |true=>
   have HQ:Hid (R= .error 72):=HR.out.symm.trans (itemG_must hk0 hm)
   obtain ⟨X,hs,hld,hbx,_⟩:=HPUT.out W1 (Below.refl _ _)
   have HLV:=Lib.hid hld
   have HBX:=Lib.hid hbx
   rw [hk0] at l1
   rw [hm] at l2 hW1
   have hkb:(t.kind==0)=true:=by simp [hk0]
   clear hld hbx l4 l5 l6 hk0 hm
   go_enter Tryz.func50,Tryz.ntmps50
   go_wp2
   exact bodyPost_ret_by (results_cell_tmp2 rfl rfl HLV.out rfl) rfl (RItAns.bad HQ.out HBX.out)
  |false=>
   have HQ:Hid (R= .ok f.dflt):=HR.out.symm.trans (itemG_dflt hk0 hm)
   obtain ⟨X,hs,hld,hbx,hzx,hsame⟩:=val_store X3.out rfl f.dflt none 0 0
   replace hs:(Instr.storeAt 42 (.pointer (some ⟨w.heap.size+2,0,none⟩)) (.agg #[.int .i64 f.dk,.int .u64 f.dn,.string ⟨f.dt.toArray⟩,.slice none 0 0,.int .i64 0])).run Tryz.prog W1= .ok () X:=hs
   have HLV:=Lib.hid hld
   have HBX:=Lib.hid (HB1.out.trans (hbx.mono (by omega)))
   have HV0:=Lib.hid (lit_vat f X HLIT.out)
   rw [hk0] at l1
   rw [hm] at l2 hW1
   have hkb:(t.kind==0)=true:=by simp [hk0]
   clear hld hbx l4 l5 hk0 hm hsame hzx
   go_enter Tryz.func50,Tryz.ntmps50
   go_wp2
   exact bodyPost_ret_by (results_cell_tmp2 rfl rfl HLV.out rfl) rfl (RItAns.same HQ.out HV0.out.1 (LAtP.nil 0 none 0) HBX.out _)
 have hkb:(t.kind==0)=false:=by simp [hk0]
 by_cases hsy:f.type=101∧t.kind=20
 ·have HQ:Hid (R= .ok (symArr t)):=HR.out.symm.trans (itemG_sym hsy.1 hsy.2)
  have hkc:(t.kind==20)=true:=by simp [hsy.2]
  have htb:(f.type==101)=true:=by simp [hsy.1]
  obtain ⟨W2,hW2⟩:∃ W2,W1.alloc (.cells #[.int .i64 t.kind,.int .u64 t.num,.string t.text,.slice p t.list.length c,.int .i64 t.elem] 42)=W2:=⟨_,rfl⟩
  obtain ⟨y1,hz2,hb2⟩:=one_box (cs:=t.cells (.slice p t.list.length c)) hW2
  obtain ⟨X,hs,hld,hbx,hzx,hsame⟩:=val_store (X3.out.below hb2 (by omega)) rfl (symArr t) (some ⟨W1.heap.size,0,none⟩) 1 1
  have HB2:=Lib.hid (HB1.out.trans (hb2.mono (by omega)))
  have HBX:=Lib.hid (HB2.out.trans (hbx.mono (by omega)))
  have HLV:=Lib.hid hld
  have HLA:Hid (LAtP (fun b=>P b∨w.heap.size≤b) X (N+1) (.slice (some ⟨W1.heap.size,0,none⟩) 1 1) [t]):=by
   have y2:Box X W1.heap.size (t.cells (.slice p t.list.length c)):=y1.heap (hsame _ (by omega))
   have hlx:=HLW.out X (HB2.out.trans (hbx.mono (by omega)))
   refine .inr ⟨W1.heap.size,0,1,rfl,.inr (by omega),by omega,(by show 1≤maxLen;decide),fun i u hu=>?_⟩
   match i,hu with
   |0,hu=>
    cases hu
    exact ⟨HFT.out,_,⟨y2.cell (j:=0) rfl,y2.cell (j:=1) rfl,y2.cell (j:=2) rfl,y2.cell (j:=3) rfl,y2.cell (j:=4) rfl⟩,hlx.weak fun b h _=> .inl h⟩
   |i+1,hu=>simp at hu
  have HAN:Hid (RItAns P R (t.agg (.slice p t.list.length c)) w (.returned (.tuple #[(symArr t).agg (.slice (some ⟨W1.heap.size,0,none⟩) 1 1),.int .i64 0])) X):=by
   show RItAns P R _ w _ X
   rw [HQ.out]
   exact ⟨HBX.out,_,_,rfl,⟨by show _≤(23:Int);omega,by show (23:Int)≤_;omega,by show (0:Int)≤0;omega,by show (0:Int)≤_;omega,by show _≤(20:Int);omega,by show (20:Int)≤_;omega,by show empt.size≤_;decide⟩,HLA.out⟩
  replace hs:(Instr.storeAt 42 (.pointer (some ⟨w.heap.size+2,0,none⟩)) (.agg #[.int .i64 23,.int .u64 0,.string ⟨#[]⟩,.slice (some ⟨W1.heap.size,0,none⟩) 1 1,.int .i64 20])).run Tryz.prog W2= .ok () X:=hs
  rw [hz1] at hs HLV HAN
  clear hld hbx hzx hsame y1 hz2 hb2 hsy hk0 l2 l5 l6
  go_enter Tryz.func50,Tryz.ntmps50
  go_wp2
  exact bodyPost_ret_by (results_cell_tmp2 rfl rfl HLV.out rfl) rfl HAN.out
 obtain ⟨Z,hZ⟩:∃ Z,wantedT f t=Z:=⟨_,rfl⟩
 have HZZ:=Lib.hid hZ
 have HWT:Hid (Calls Tryz.prog 91 #[fagg f (.slice kp f.kinds.length kc),t.agg (.slice p t.list.length c)] W1 fun r w'=>r= .returned (.bool Z)∧Below W1.heap.size W1 w'):=by
  obtain ⟨v1,v2,v3,_⟩:=HVV.out W1 (Below.refl _ _)
  have:=fits_any f (.slice kp f.kinds.length kc) t (.slice p t.list.length c) W1 v1 v3 hkl HFT.out v2.lat (Nat.le_refl _)
  rw [hZ] at this
  exact this
 have HS0:Hid (¬(f.type=101∧t.kind=20)):=hsy
 have HK0:=Lib.hid hk0
 have hor:(f.type==101)=false∨((f.type==101)=true∧(t.kind==20)=false):=by
  by_cases h:f.type=101
  ·exact .inr ⟨by simp [h],by simp;exact fun e=>hsy ⟨h,e⟩⟩
  ·exact .inl (by simp [h])
 clear hsy hk0 hZ l2 l6
 rcases hor with hA|⟨hA,hB⟩
 all_goals
  go_enter Tryz.func50,Tryz.ntmps50
  go_wp2_with (fail)
  refine HWT.out.mono ?_
  rintro r V ⟨rfl,hbv⟩
  have HBV2:=Lib.hid hbv
  have HBV:=Lib.hid (HB1.out.trans (hbv.mono (by omega)))
  have hzV:W1.heap.size≤V.heap.size:=hbv.size
  obtain ⟨m5,m6,m7,_⟩:=HLD.out V hbv
  clear hbv l1 l3 l4 l5 hW1
  cases Z with
  |false=>
   have HQ:Hid (R= .error 73):=HR.out.symm.trans (itemG_bad HK0.out HS0.out HZZ.out)
   obtain ⟨X,hs,hld,hbx,_⟩:=HPUT.out V HBV2.out
   have HLV:=Lib.hid hld
   have HBX:=Lib.hid hbx
   clear hld hbx m5 m7
   go_wp2
   exact bodyPost_ret_by (results_cell_tmp2 rfl rfl HLV.out rfl) rfl (RItAns.bad HQ.out HBX.out)
  |true=>
   have HQ0:Hid (R=readF n f t):=HR.out.symm.trans (itemG_rd HK0.out HS0.out HZZ.out)
   by_cases h102:f.type=102
   case neg=>
    have HQ:Hid (R= .ok t):=HQ0.out.trans (readF_plain n f t h102)
    have htc:(f.type !=102)=true:=by simp [h102]
    obtain ⟨X,hs,hld,hbx,hlx⟩:=HPUT.out V HBV2.out
    have HLV:=Lib.hid hld
    have HBX:=Lib.hid hbx
    have HLX:=Lib.hid hlx
    clear hld hbx hlx m5 h102
    go_wp2
    exact bodyPost_ret_by (results_cell_tmp2 rfl rfl HLV.out rfl) rfl (RItAns.same HQ.out HFT.out HLX.out HBX.out _)
   have hrk2:=HRK.out h102 HZZ.out
   obtain ⟨m,rfl⟩:∃ m,n=m+1:=⟨n-1,by omega⟩
   have htc:(f.type !=102)=false:=by simp [h102]
   have HEV:=Lib.hid (errV_of (m:=m) h102 HCK.out)
   have HUN:Hid (Calls Tryz.prog 27 #[t.agg (.slice p t.list.length c)] V fun r w'=>RUnAns P (unR m t) V r w'):=(HU.out m rfl).1 P N t _ V (fun b h=>Nat.lt_of_lt_of_le (HP.out b h) HBV.out.size) (HVV.out V HBV2.out).1 HFT.out (HVV.out V HBV2.out).2.1 (by omega) HND.out
   have hkm:rkO (kindOf t)≤m:=by omega
   have HKM:=Lib.hid hkm
   obtain ⟨a,ha⟩:∃ a,unR m t=a:=⟨_,rfl⟩
   have HA:=Lib.hid ha
   rw [ha] at HUN HEV
   clear ha h102 hrk2 hkm m5
   go_wp2_with (fail)
   clear m6 m7
   refine HUN.out.mono ?_
   rintro r w4 ⟨hb4,hans⟩
   obtain ⟨x4,hz4,hba4⟩:=one_box (w:=w4) (cs:=[.int .i64 0,.slice none 0 0]) (T:=33) rfl
   have hz:=hb4.size
   have HB4:=Lib.hid (HBV2.out.trans (hb4.mono hzV))
   clear hb4
   cases a with
   |error q=>
    obtain ⟨i,e⟩:=q
    subst hans
    have HQ:Hid (R= .error e):=HQ0.out.trans HEV.out
    have hne:e≠0:=by
     have h:=HA.out
     unfold unR at h
     rw [if_neg (by simp [HCK.out])] at h
     exact unpackG_err (readF_err m) h
    have hee:(e !=0)=true:=by simp [hne]
    obtain ⟨X5,hs5,_,_,hb5,hz5,_⟩:=rec_store x4 rfl 0 none 0 0
    have hb15:Below W1.heap.size W1 X5:=HB4.out.trans ((hba4.trans hb5).mono (by omega))
    obtain ⟨_,m6,_,_⟩:=HLD.out X5 hb15
    obtain ⟨X,hs,hld,hbx,_⟩:=HPUT.out X5 hb15
    have HLV:=Lib.hid hld
    have HBX:=Lib.hid hbx
    clear hld hbx hb15 hb5 x4 hba4 hne
    go_wp2
    exact bodyPost_ret_by (results_cell_tmp2 rfl rfl HLV.out rfl) rfl (RItAns.bad HQ.out HBX.out)
   |ok q=>
    obtain ⟨k,l⟩:=q
    obtain ⟨lv5,M5,rfl,ho5⟩:=hans
    obtain ⟨q5,c5,rfl⟩:=ho5.slice
    have HQ:Hid (R= .ok (packF m k l)):=HQ0.out.trans HEV.out
    obtain ⟨fs,hfs,hgood,hll,hnn⟩:=unR_good HA.out
    obtain ⟨X5,hs5,_,y5,hb5,hz5,_⟩:=rec_store x4 rfl k q5 l.length c5
    have hb45:Below w4.heap.size w4 X5:=hba4.trans hb5
    have hb15:Below W1.heap.size W1 X5:=HB4.out.trans (hb45.mono (by omega))
    have m8:=pload_int (y5.cell (j:=0) rfl)
    have hkk:rk k≤m:=by
     have h:=(unR_ok HA.out).2
     obtain ⟨fs',hr⟩:=unpackG_ok h
     have:=HKM.out
     rw [hr.kind] at this
     exact this
    have HF:Hid (fieldsT k=some fs∧GoodL m fs l∧l.length=fs.length∧(nodesL l+13)*2^m≤800000000∧rk k≤m):=⟨hfs,hgood,hll,by
     have h1:=Nat.mul_le_mul_right (2^m) hnn
     have h2:=HND.out
     rw [Nat.pow_succ',←Nat.mul_assoc,Nat.mul_comm (nodes t+13) 2] at h2
     omega,hkk⟩
    have HL5:Hid (LAtP (fun b=>P b∨V.heap.size≤b) X5 M5 (.slice q5 l.length c5) l):=ho5.below hb45
    have HE5:=Lib.hid (HVV.out X5 hb15).1
    have HB15:=Lib.hid hb15
    have Y5:=Lib.hid y5
    have hfk:=rfields_any k X5
    unfold FieldsAns at hfk
    rw [hfs] at hfk
    have HFK:=Lib.hid hfk
    have hz15:W1.heap.size≤X5.heap.size:=hb15.size
    have hwx:w4.heap.size<X5.heap.size:=by omega
    clear hfk hb15 hb45 hb5 x4 hba4 y5 hz5 hfs hgood hll hnn ho5 hkk hz4 hz
    go_wp2_with (go_at_call 9;refine HFK.out.mono ?_;rintro r w6 ⟨vf,rfl,hfo,hb6⟩;have HB6:=Lib.hid hb6;have HFO:=Lib.hid hfo;have m9:=pload_rec (Y5.out.below hb6 hwx);clear hb6 hfo)
    have hz6:=HB6.out.size
    have HPC:Hid (Calls Tryz.prog 42 #[.agg #[.int .i64 k,.slice q5 l.length c5],vf] w6 fun r w'=>RPkAns (fun b=>P b∨(V.heap.size≤b∧b<w6.heap.size)) (packF m k l) w6 r w'):=
     (HU.out m rfl).2 (fun b=>P b∨(V.heap.size≤b∧b<w6.heap.size)) _ _ M5 k fs l (.slice q5 l.length c5) vf w6 (fun b h=>by rcases h with h|h;exact Nat.lt_of_lt_of_le (HP.out b h) (by have:=HBV.out.size;omega);exact h.2) (HE5.out.below HB6.out) HF.out.1 HF.out.2.2.1 HFO.out ((HL5.out.below HB6.out).weak fun b h hlt=>h.elim .inl fun h=> .inr ⟨h,hlt⟩) HF.out.2.2.2.2 HF.out.2.2.2.1 HF.out.2.1
    refine HPC.out.mono ?_
    rintro r w7 ⟨lv7,M7,rfl,ho7,hb7⟩
    obtain ⟨q7,c7,rfl⟩:=ho7.slice
    have hz7:=hb7.size
    have hb17:Below W1.heap.size W1 w7:=(HB15.out.trans (HB6.out.mono hz15)).trans (hb7.mono (by omega))
    obtain ⟨_,_,_,x3⟩:=HLD.out w7 hb17
    obtain ⟨X8,hs8,hl8,hb8,hz8,hsame⟩:=val_store x3 rfl (packF m k l) q7 (packF m k l).list.length c7
    have HLV:=Lib.hid hl8
    have HBX:Hid (Below w.heap.size w X8):=(HB1.out.trans (hb17.mono (by omega))).trans (hb8.mono (by omega))
    have HLA:Hid (LAtP (fun b=>P b∨w.heap.size≤b) X8 M7 (.slice q7 (packF m k l).list.length c7) (packF m k l).list):=by
     refine (ho7.heap (w':=X8) (by omega) fun b hb _=>hsame b ?_).weak fun b hb _=>?_
     ·have hs1:=HB1.out.size
      rcases hb with (h|h)|h
      ·have:=HP.out b h;omega
      ·omega
      ·omega
     ·rcases hb with (h|h)|h
      ·exact .inl h
      ·exact .inr (by omega)
      ·exact .inr (by omega)
    have HAN:Hid (RItAns P R (t.agg (.slice p t.list.length c)) w (.returned (.tuple #[(packF m k l).agg (.slice q7 (packF m k l).list.length c7),.int .i64 0])) X8):=by
     show RItAns P R _ w _ X8
     rw [HQ.out]
     exact ⟨HBX.out,_,_,rfl,packV_fine _ _,HLA.out⟩
    clear hl8 hb8 hz8 hsame x3 hb17 ho7 hb7 m9
    go_wp2
    exact bodyPost_ret_by (results_cell_tmp2 rfl rfl HLV.out rfl) rfl HAN.out
theorem val_load {v X:World} {b:Nat} {cs:List Value} (x:Box v b cs) (hl:cs.length=5) (t:VT) (a:Option Addr) (n c:Nat) (hs:(Instr.storeAt 42 (.pointer (some ⟨b,0,none⟩)) (t.agg (.slice a n c))).run Tryz.prog v= .ok () X):(Instr.loadAt 42 (.pointer (some ⟨b,0,none⟩))).run Tryz.prog X= .ok (t.agg (.slice a n c)) X:=by
 have h1:=wstore_value (t:=t) (a:=a) (n:=n) (c:=c) (x.part (o:=0) (n:=5) (by omega))
 have y:=x.all (vs:=t.cells (.slice a n c)) (by rw [hl];rfl)
 rw [h1] at hs
 cases hs
 exact wload_value y.1
theorem val_same {v X:World} {b:Nat} {cs:List Value} (x:Box v b cs) (hl:cs.length=5) (t:VT) (a:Option Addr) (n c:Nat) (hs:(Instr.storeAt 42 (.pointer (some ⟨b,0,none⟩)) (t.agg (.slice a n c))).run Tryz.prog v= .ok () X):∀ j,j≠b→X.heap[j]? =v.heap[j]? :=by
 have h1:=wstore_value (t:=t) (a:=a) (n:=n) (c:=c) (x.part (o:=0) (n:=5) (by omega))
 rw [h1] at hs
 cases hs
 exact fun j hj=>setCells_other hj _ _
theorem packed_of {n:Nat} (hU:∀ m,n=m+1→RUn m∧RPk m):RPk n:=by
 intro P lo hi N k fs l lv fv w hPw hE hfs hll hfo hl hrk hnd hgood
 obtain ⟨p,c,rfl⟩:=hl.slice
 obtain ⟨fp,fc,rfl,hfu⟩:=hfo.view
 have hkb:=fieldsT_bound hfs
 have hfl:=fieldsT_len hfs
 obtain ⟨W1,hW1⟩:∃ W1,(w.alloc (.cells #[.int .i64 k,.slice p l.length c] 33)).alloc (.cells #[.int .i64 0,.int .u64 0,.string ⟨#[]⟩,.slice none 0 0,.int .i64 0] 42)=W1:=⟨_,rfl⟩
 obtain ⟨x1,x2,hz1,hb1⟩:=two_boxes (cs:=[.int .i64 k,.slice p l.length c]) (ds:=zeroT.cells (.slice none 0 0)) hW1
 have X1:=Lib.hid x1
 have X2:=Lib.hid x2
 have HB1:=Lib.hid hb1
 have HE1:=Lib.hid (hE.below hb1)
 have HP:=Lib.hid hPw
 have HL1:Hid (LAtP P W1 N (.slice p l.length c) l):=hl.below hb1
 have HFO1:Hid (FsOwn lo hi W1 (.slice fp fs.length fc) fs):=hfo.below hb1
 have HFS:=Lib.hid hfs
 have HND:=Lib.hid hnd
 have HG:=Lib.hid hgood
 have HU:=Lib.hid hU
 have HRK:=Lib.hid hrk
 obtain ⟨R,hR⟩:∃ R,packF n k l=R:=⟨_,rfl⟩
 have HR:Hid (R=packV k (trimT (List.zipWith (itemP (readF n)) fs l))):=by
  show R=_
  rw [←hR]
  show packG (readF n) k l=_
  unfold packG
  rw [hfs];rfl
 rw [hR]
 obtain ⟨m,hm⟩:∃ m,l.length=m:=⟨_,rfl⟩
 have Hm:=Lib.hid hm
 have hfm:fs.length=m:=by omega
 have Hfm:=Lib.hid hfm
 rw [hm] at hW1 X1 HL1 ⊢
 rw [hfm] at HFO1 ⊢
 have hm13:m≤13:=by omega
 have HPR0:Hid (PRL W1.heap.size 42 (fun b=>P b∨W1.heap.size≤b) W1 [] (.slice none 0 0) W1):=PRL.start W1
 have HLS:Hid (∀ v,Below W1.heap.size W1 v→(Instr.loadAt 31 (.pointer (some ⟨w.heap.size,1,none⟩))).run Tryz.prog v= .ok (.slice p m c) v):=fun v h=>by
  have:=X1.out
  exact wload_slice ((this.below h (by omega)).cell (j:=1) rfl)
 clear hl x1 x2 hb1 hE hfs hnd hR hm hfm hll hfl hfo hfu hPw hgood hU hrk
 go_enter Tryz.func42,Tryz.ntmps42
 go_wp2
 obtain ⟨i0,hi0,hi1,hi2,hi3⟩:=info_parts infoVV
 go_loopw [5,6] (fun sv iv wr=>∃ (i:Nat) (items:List (VT×Value)),iv= .int .i64 i∧i≤m∧Hid (items.map (·.1)=(List.zipWith (itemP (readF n)) fs l).take i)∧Hid (PRL W1.heap.size 42 (fun b=>P b∨W1.heap.size≤b) W1 items sv wr)) (fun _ iv _=>m-(intOf iv).toNat)
 case atStart=>exact ⟨0,[],rfl,Nat.zero_le _,(by show []=_;simp),HPR0.out⟩
 case round=>
  obtain ⟨i,items,rfl,hi,HT,HPR⟩:=hrel
  have ls:=HLS.out wr HPR.out.below
  by_cases hlt:i<m
  ·obtain ⟨x,hx⟩:∃ x,l[i]? =some x:=⟨_,List.getElem?_eq_getElem (by rw [Hm.out];exact hlt)⟩
   obtain ⟨f,hf⟩:∃ f,fs[i]? =some f:=⟨_,List.getElem?_eq_getElem (by rw [Hfm.out];exact hlt)⟩
   have hitl:items.length=i:=by
    have:=congrArg List.length HT.out
    simp only [List.length_map,List.length_take,List.length_zipWith] at this
    have h1:=Hm.out;have h2:=Hfm.out
    omega
   have HLr:=HL1.out.below HPR.out.below
   cases N with
   |zero=>exact HLr.elim
   |succ N=>
   rcases HLr with ⟨h0,_⟩|⟨b,off,c',hp,hPb,hbB,_,hel⟩
   ·exfalso;have:=Hm.out;rw [h0] at this;simp at this;omega
   rw [Hm.out] at hp
   cases hp
   obtain ⟨xf,xlv,xat,xl⟩:=hel i x hx
   obtain ⟨xq,xd,rfl⟩:=xl.slice
   have hzr:=HPR.out.Bw
   obtain ⟨q1,d1,e1,hv⟩:=(HFO1.out.below HPR.out.below).view
   obtain ⟨fb,foff,kv,rfl,hfb,⟨a0,a1,a2,a3,a4,a5,a6,a7,a8⟩,hkv⟩:=hv i f hf
   simp only [Value.slice.injEq] at e1
   obtain ⟨rfl, -, -⟩:=e1
   have hcf:Cells wr fb (foff+i*9) (fcell f kv):=fun j u hu=>by
    match j,hu with
    |0,hu=>cases hu;exact a0
    |1,hu=>cases hu;exact a1
    |2,hu=>cases hu;exact a2
    |3,hu=>cases hu;exact a3
    |4,hu=>cases hu;exact a4
    |5,hu=>cases hu;exact a5
    |6,hu=>cases hu;exact a6
    |7,hu=>cases hu;exact a7
    |8,hu=>cases hu;exact a8
    |j+9,hu=>simp [fcell] at hu
   have le:=wload_value (at5_cells xat)
   have hi0':(0:Int)≤(i:Int):=by omega
   have hi1':(i:Int)<(m:Int):=by omega
   obtain ⟨Wa,hWa⟩:∃ Wa,wr.alloc (.cells #[.int .i64 0,.int .u64 0,.string ⟨#[]⟩,.slice none 0 0,.int .i64 0] 42)=Wa:=⟨_,rfl⟩
   obtain ⟨xa,hza,hba⟩:=one_box (cs:=zeroT.cells (.slice none 0 0)) hWa
   obtain ⟨Wb,hsta,xb,hbb0,hzb⟩:=val_box xa rfl x xq x.list.length xd
   have hbb:Below wr.heap.size wr Wb:=hba.trans hbb0
   have hfg:=field_good HFS.out (List.mem_of_getElem? hf)
   have hgd:=HG.out i f x hf hx
   have HFI:=Lib.hid hf
   have HXI:=Lib.hid hx
   have HXF:=Lib.hid xf
   have HXL:Hid (LAtP P Wb N (.slice xq x.list.length xd) x.list):=xl.below hbb
   have HLIT:=Lib.hid (field_lit HFS.out (List.mem_of_getElem? hf))
   have HIP:Hid (itemP (readF n) f x=if eqT (takeF n f x) f.dflt=true then zeroT else takeF n f x):=itemP_take hfg hgd.1 hgd.2.1
   have HGD:=Lib.hid hgd
   have HLF:Hid (∀ v,Below wr.heap.size wr v→(Instr.loadAt 3 (.pointer (some ⟨fb,foff+i*9+1,none⟩))).run Tryz.prog v= .ok (.int .i64 f.type) v∧(Instr.loadAt 42 (.pointer (some ⟨fb,foff+i*9+4,none⟩))).run Tryz.prog v= .ok (.agg #[.int .i64 f.dk,.int .u64 f.dn,.string ⟨f.dt.toArray⟩,.slice none 0 0,.int .i64 0]) v):=fun v h=>by
    have hc:Cells v fb (foff+i*9) (fcell f kv):=fun j u hu=>(h.cell (p:=⟨fb,_,none⟩) hfb).trans (hcf j u hu)
    exact ⟨pload_int (hc 1 _ rfl),wload_value (t:=f.dflt) (lv:= .slice none 0 0) fun j u hu=>by
     have:=hc (4+j) u (by
      match j,hu with
      |0,hu=>exact hu
      |1,hu=>exact hu
      |2,hu=>exact hu
      |3,hu=>exact hu
      |4,hu=>exact hu
      |j+5,hu=>simp [VT.cells] at hu)
     rwa [←Nat.add_assoc] at this⟩
   have lt3:=(HLF.out Wb hbb).1
   have lk:=pload_int (xb.cell (j:=0) rfl)
   have lx:=wload_value xb.1
   have HBB:=Lib.hid hbb
   have XB:=Lib.hid xb
   have hmx:items.length+1≤maxLen:=by unfold maxLen;omega
   have hmb:(items.length+1)*64≤140737488355328:=by omega
   have HEb:=Lib.hid ((HE1.out.below HPR.out.below).below hbb)
   obtain ⟨sp,sc,rfl⟩:=HPR.out.form
   rw [hitl] at HPR hmx hmb ⊢
   have HITL:=Lib.hid hitl
   have hnx:nodes x≤nodesL l:=nodesL_mem (List.mem_of_getElem? hx)
   clear hitl hel hx hf xat xl xf hv hkv a0 a1 a2 a3 a4 a5 a6 a7 a8 hcf xa hba xb hbb hbb0 hgd hfg hPb
   by_cases hcomp:f.type=102∧x.kind≠0
   case' pos=>
    have hct:(f.type==102)=true:=by simp [hcomp.1]
    have hck:(x.kind !=0)=true:=by simp [hcomp.2]
    have hwt:=HGD.out.2.2 hcomp.1 hcomp.2
    have hrkx:=wanted_rk HFS.out (List.mem_of_getElem? HFI.out) hcomp.1 hwt
    obtain ⟨j,hnj⟩:∃ j,n=j+1:=⟨n-1,by have:=HRK.out;omega⟩
    have HNJ:=Lib.hid hnj
    obtain ⟨z,hz⟩:=HGD.out.2.1 hcomp.2
    have hev:=errV_of (m:=j) hcomp.1 HGD.out.1
    rw [←hnj] at hev
    obtain ⟨a,ha⟩:∃ a,unR j x=a:=⟨_,rfl⟩
    rw [ha] at hev
    have hzr2:wr.heap.size+1=Wb.heap.size:=by omega
    have HUN:Hid (Calls Tryz.prog 27 #[x.agg (.slice xq x.list.length xd)] Wb fun r w'=>RUnAns P (unR j x) Wb r w'):=(HU.out j HNJ.out).1 P N x _ Wb (fun b h=>by have:=HP.out b h;have:=HB1.out.size;omega) HEb.out HXF.out HXL.out (by have:=HRK.out;omega) (by rw [←hnj];exact Nat.le_trans (Nat.mul_le_mul_right _ (Nat.add_le_add_right hnx 13)) HND.out)
    rw [ha] at HUN
    have HA:=Lib.hid ha
    obtain ⟨⟨k2,l2⟩,rfl⟩:∃ q,a= .ok q:=by
     cases a with
     |error q=>
      exfalso
      have hev:readF n f x= .error q.2:=hev
      rw [hev] at hz;cases hz
     |ok q=>exact ⟨q,rfl⟩
    have hev:readF n f x= .ok (packF j k2 l2):=hev
    have HY:Hid (takeF n f x=packF j k2 l2):=by
     show _=_
     unfold takeF
     rw [if_pos hcomp,hev];rfl
    obtain ⟨fs2,hfs2,hgood2,hll2,hnn2⟩:=unR_good HA.out
    have hkk:rk k2≤j:=by
     obtain ⟨fs',hr⟩:=unpackG_ok (unR_ok HA.out).2
     have h1:=HRK.out
     rw [hr.kind] at hrkx
     have:rkO (some k2)=rk k2:=rfl
     omega
    have HF:Hid (fieldsT k2=some fs2∧GoodL j fs2 l2∧l2.length=fs2.length∧(nodesL l2+13)*2^j≤800000000∧rk k2≤j):=⟨hfs2,hgood2,hll2,by
     have h1:=Nat.mul_le_mul_right (2^j) hnn2
     have h2:=HND.out
     rw [hnj] at h2
     have h3:=Nat.mul_le_mul_right (2^(j+1)) (Nat.add_le_add_right hnx 13)
     rw [Nat.pow_succ',←Nat.mul_assoc,Nat.mul_comm (nodes x+13) 2] at h3
     rw [Nat.pow_succ'] at h2
     omega,hkk⟩
    clear hcomp hnj hwt hrkx hz hev ha hfs2 hgood2 hll2 hnn2 hkk hnx
    go_wp2_with (fail)
    clear hWa hsta le lt3 lk lx ls
    refine HUN.out.mono ?_
    rintro r w4 ⟨hb4,lv5,M5,rfl,ho5⟩
    obtain ⟨q5,c5,rfl⟩:=ho5.slice
    obtain ⟨x4,hz4,hba4⟩:=one_box (w:=w4) (cs:=[.int .i64 0,.slice none 0 0]) (T:=33) rfl
    obtain ⟨X5,hs5,_,y5,hb5,hz5,_⟩:=rec_store x4 rfl k2 q5 l2.length c5
    have hb45:Below w4.heap.size w4 X5:=hba4.trans hb5
    have hz44:=hb4.size
    have hbb5:Below Wb.heap.size Wb X5:=hb4.trans (hb45.mono hz44)
    have m8:=pload_int (y5.cell (j:=0) rfl)
    have HL5:Hid (LAtP (fun b=>P b∨Wb.heap.size≤b) X5 M5 (.slice q5 l2.length c5) l2):=ho5.below hb45
    have HBB5:=Lib.hid hbb5
    have Y5:=Lib.hid y5
    have hfk:=rfields_any k2 X5
    unfold FieldsAns at hfk
    rw [HF.out.1] at hfk
    have HFK:=Lib.hid hfk
    have hwx:w4.heap.size<X5.heap.size:=by omega
    have hz55:Wb.heap.size≤X5.heap.size:=hbb5.size
    clear hfk hbb5 hb45 hb5 x4 hba4 y5 hz5 ho5 hz4 hb4 hz44
    go_wp2_with (go_at_call 9;refine HFK.out.mono ?_;rintro r w6 ⟨vf,rfl,hfo,hb6⟩;have HB6:=Lib.hid hb6;have HFO:=Lib.hid hfo;have m9:=pload_rec (Y5.out.below hb6 hwx);clear hb6 hfo)
    have hz6:=HB6.out.size
    have HPC:Hid (Calls Tryz.prog 42 #[.agg #[.int .i64 k2,.slice q5 l2.length c5],vf] w6 fun r w'=>RPkAns (fun b=>P b∨(Wb.heap.size≤b∧b<w6.heap.size)) (packF j k2 l2) w6 r w'):=
     (HU.out j HNJ.out).2 (fun b=>P b∨(Wb.heap.size≤b∧b<w6.heap.size)) _ _ M5 k2 fs2 l2 (.slice q5 l2.length c5) vf w6 (fun b h=>by rcases h with h|h;exact Nat.lt_of_lt_of_le (HP.out b h) (by have:=HB1.out.size;omega);exact h.2) ((HEb.out.below HBB5.out).below HB6.out) HF.out.1 HF.out.2.2.1 HFO.out ((HL5.out.below HB6.out).weak fun b h hlt=>h.elim .inl fun h=> .inr ⟨h,hlt⟩) HF.out.2.2.2.2 HF.out.2.2.2.1 HF.out.2.1
    refine HPC.out.mono ?_
    rintro r w7 ⟨lv7,M,rfl,ho7,hb7⟩
    obtain ⟨y,hy⟩:∃ y,packF j k2 l2=y:=⟨_,rfl⟩
    have hyf:y.Fine:=by rw [←hy];exact packV_fine _ _
    rw [hy] at ho7 HY ⊢
    obtain ⟨yq,yd,rfl⟩:=ho7.slice
    have hz7:=hb7.size
    have hb57:Below Wb.heap.size Wb w7:=(HBB5.out.trans (HB6.out.mono hz55)).trans (hb7.mono (by omega))
    obtain ⟨V,hs8,yb,hb8,hz8⟩:=val_box (XB.out.below hb57 (by omega)) rfl y yq y.list.length yd
    have hsm8:∀ b,b≠wr.heap.size→V.heap[b]? =w7.heap[b]? :=val_same (XB.out.below hb57 (by omega)) rfl y yq y.list.length yd hs8
    have HBV:Hid (Below wr.heap.size wr V):=(HBB.out.trans (hb57.mono (by omega))).trans hb8
    have YB:=Lib.hid yb
    have YF:=Lib.hid hyf
    have YL:Hid (LAtP (fun b=>P b∨wr.heap.size≤b) V M (.slice yq y.list.length yd) y.list):=by
     refine (ho7.heap (w':=V) (by omega) fun b hb _=>hsm8 b ?_).weak fun b hb _=>?_
     ·have hs1:=HB1.out.size
      rcases hb with (h|h)|h
      ·have:=HP.out b h;omega
      ·omega
      ·omega
     ·rcases hb with (h|h)|h
      ·exact .inl h
      ·exact .inr (by omega)
      ·exact .inr (by omega)
    have YZ:Hid (wr.heap.size<V.heap.size):=by show _<_;omega
    clear ho7 hb7 hb57 hb8 hz8 hsm8 yb hyf hy m9 m8 hs5 HUN HFK HPC HBB5 HB6 HFO HL5 Y5 HEb XB HBB
    go_wp2
    clear hs8
   case' neg=>
    have HY:Hid (takeF n f x=x):=if_neg hcomp
    have YB:=XB
    have YL:Hid (LAtP (fun b=>P b∨wr.heap.size≤b) Wb N (.slice xq x.list.length xd) x.list):=HXL.out.weak fun b h _=> .inl h
    have YF:=HXF
    have YZ:Hid (wr.heap.size<Wb.heap.size):=by show _<_;omega
    have HBV:=HBB
    have hor:(f.type==102)=false∨((f.type==102)=true∧(x.kind !=0)=false):=by
     by_cases h:f.type=102
     ·exact .inr ⟨by simp [h],by simp;exact Decidable.not_not.1 fun e=>hcomp ⟨h,e⟩⟩
     ·exact .inl (by simp [h])
    clear hcomp hnx
    rcases hor with hA|⟨hA,hB⟩
    all_goals
     go_wp2
     clear hWa hsta le lt3 lk lx ls
     obtain ⟨y,hy⟩:∃ y,x=y:=⟨_,rfl⟩
     obtain ⟨V,hV⟩:∃ V,Wb=V:=⟨_,rfl⟩
     obtain ⟨M,hM⟩:∃ M,N=M:=⟨_,rfl⟩
     obtain ⟨yq,hyq⟩:∃ yq,xq=yq:=⟨_,rfl⟩
     obtain ⟨yd,hyd⟩:∃ yd,xd=yd:=⟨_,rfl⟩
     have HY2:Hid (takeF n f x=y):=HY.out.trans hy
     clear HY
     have HY:=HY2
     clear HY2
     rw [hy] at YB YL YF
     rw [hV] at YB YL YZ HBV ⊢
     rw [hM] at YL
     rw [hyq,hyd] at YB YL
     clear hy hV hM hyq hyd
   all_goals
    have hzV:=HBV.out.size
    have HLX:Hid (∀ v,Below V.heap.size V v→(Instr.loadAt 42 (.pointer (some ⟨fb,foff+i*9+4,none⟩))).run Tryz.prog v= .ok (.agg #[.int .i64 f.dk,.int .u64 f.dn,.string ⟨f.dt.toArray⟩,.slice none 0 0,.int .i64 0]) v∧(Instr.loadAt 42 (.pointer (some ⟨wr.heap.size,0,none⟩))).run Tryz.prog v= .ok (y.agg (.slice yq y.list.length yd)) v):=fun v h=>
     ⟨(HLF.out v (HBV.out.trans (h.mono hzV))).2,wload_value (YB.out.below h (by have:=YZ.out;omega)).1⟩
    have HEQ:Hid (∀ v,Below V.heap.size V v→Calls Tryz.prog 21 #[y.agg (.slice yq y.list.length yd),.agg #[.int .i64 f.dk,.int .u64 f.dn,.string ⟨f.dt.toArray⟩,.slice none 0 0,.int .i64 0]] v fun r w'=>r= .returned (.bool (eqT y f.dflt))∧Below v.heap.size v w'):=fun v h=>
     equal_any (N:=M+1) (B:=v.heap.size) (t:=y) (t':=f.dflt) ⟨YF.out,_,rfl,(YL.out.below h).lat.mono (by omega)⟩ (let ⟨a,lv,e,hl⟩:=lit_vat f v HLIT.out;⟨a,lv,e,(hl.up (Nat.zero_le _)).mono (by omega)⟩) (Nat.le_refl _)
    obtain ⟨Z,hZ⟩:∃ Z,eqT y f.dflt=Z:=⟨_,rfl⟩
    have HIZ:Hid (itemP (readF n) f x=if Z=true then zeroT else y):=by rw [←hZ];exact HIP.out.trans (by rw [HY.out])
    rw [hZ] at HEQ
    clear hZ
    go_region_held3 (fun v=>(Instr.loadAt 42 (.pointer (some ⟨fb,foff+i*9+4,none⟩))).run Tryz.prog v= .ok (.agg #[.int .i64 f.dk,.int .u64 f.dn,.string ⟨f.dt.toArray⟩,.slice none 0 0,.int .i64 0]) v∧(Instr.loadAt 42 (.pointer (some ⟨wr.heap.size,0,none⟩))).run Tryz.prog v= .ok (y.agg (.slice yq y.list.length yd)) v)
     (first
       |with_reducible exact HLX.out _ ((Below.refl _ _).drew.trans hb5)
       |with_reducible exact HLX.out _ (Below.refl _ _).drew
       |with_reducible exact HLX.out _ (Below.refl _ _))
     ((go_at_call 21;refine (HEQ.out _ (Below.refl _ _).drew).mono ?_;rintro r V2 ⟨rfl,hb5'⟩;have hb5:Below V.heap.size V.drew V2:=hb5';clear hb5'))
    have HV2:=Lib.hid ((Below.refl V.heap.size V).drew.trans hb5)
    have hzV2:=HV2.out.size
    clear hb5
    have YB2:=Lib.hid (YB.out.below HV2.out (by have:=YZ.out;omega))
    have YL2:=Lib.hid (YL.out.below HV2.out)
    cases Z with
    |true=>
     have HIT:Hid (itemP (readF n) f x=zeroT):=HIZ.out.trans (if_pos rfl)
     obtain ⟨X,hs6,hl6,hb6,hz6,hsm6⟩:=val_store YB2.out rfl zeroT none 0 0
     replace hs6:(Instr.storeAt 42 (.pointer (some ⟨wr.heap.size,0,none⟩)) (.agg #[.int .i64 0,.int .u64 0,.string ⟨#[]⟩,.slice none 0 0,.int .i64 0])).run Tryz.prog V2= .ok () X:=hs6
     have ld6:(Instr.loadAt 42 (.pointer (some ⟨wr.heap.size,0,none⟩))).run Tryz.prog X= .ok (.agg #[.int .i64 0,.int .u64 0,.string ⟨#[]⟩,.slice none 0 0,.int .i64 0]) X:=val_load YB2.out rfl zeroT none 0 0 hs6
     have HPX:Hid (PRL W1.heap.size 42 (fun b=>P b∨W1.heap.size≤b) W1 items (.slice sp i sc) X):=HPR.out.keep (((HBV.out.trans (HV2.out.mono hzV))).trans hb6)
     have zc:Below X.heap.size X (X.alloc (.cells #[.int .i64 0,.int .u64 0,.string ⟨#[]⟩,.slice none 0 0,.int .i64 0] 42)):=(Below.refl _ _).alloc (Nat.le_refl _) _
     have hPA:=HPX.out.keep zc
     have HPA:=Lib.hid hPA
     have hrow:=hPA.row;rw [HITL.out] at hrow
     have hBV:=hPA.Bw
     clear zc hPA hl6 hb6 hz6 hsm6
     go_wp2_with (at_builtin;go_must (refine wpList_append_own_at _ rfl _ _ 31 rfl W1.heap.size 42 i0 _ 5 64 Tryz.underlying31 hi0 hi1 hi2 hi3 rfl (by decide) (.slice sp i sc) i (cellsL items) rfl hrow ⟨X.heap.size,0,none⟩ 1 1 (zeroT.cells (.slice none 0 0)) rfl rfl (vt_new X zeroT (.slice none 0 0) _) (vt_one _ _ _ _) hmx hmb hBV ?_;intro v' w6 hown6 hgrow6 hnil6 hat6))
     rw [←HITL.out] at hown6
     have HP6:Hid (PRL W1.heap.size 42 (fun b=>P b∨W1.heap.size≤b) W1 (items++[(zeroT,.slice none 0 0)]) v' w6):=HPA.out.push (x:=(zeroT,.slice none 0 0)) zeroT_fine (LAtP.nil 0 _ _) hown6 hgrow6 hat6
     have HT6:Hid ((items++[((zeroT,.slice none 0 0):VT×Value)]).map (·.1)=(List.zipWith (itemP (readF n)) fs l).take (i+1)):=zip_takes HFI.out HXI.out HT.out HIT.out.symm
     clear hown6 hgrow6 hnil6 hat6 hrow hBV
     go_roundw
     case rel=>exact ⟨i+1,_,by go_num,by omega,HT6.out,HP6.out⟩
     case measure=>simp [intOf];omega
    |false=>
     have HIT:Hid (itemP (readF n) f x=y):=HIZ.out.trans (if_neg (by simp))
     have ld6:=wload_value YB2.out.1
     have HPX:Hid (PRL W1.heap.size 42 (fun b=>P b∨W1.heap.size≤b) W1 items (.slice sp i sc) V2):=HPR.out.keep (HBV.out.trans (HV2.out.mono hzV))
     have zc:Below V2.heap.size V2 (V2.alloc (.cells #[.int .i64 y.kind,.int .u64 y.num,.string y.text,.slice yq y.list.length yd,.int .i64 y.elem] 42)):=(Below.refl _ _).alloc (Nat.le_refl _) _
     have hPA:=HPX.out.keep zc
     have HPA:=Lib.hid hPA
     have hrow:=hPA.row;rw [HITL.out] at hrow
     have hBV:=hPA.Bw
     have HYA:Hid (LAtP (fun b=>(P b∨W1.heap.size≤b)∧(Value.slice sp i sc).ownBlock≠some b) (V2.alloc (.cells #[.int .i64 y.kind,.int .u64 y.num,.string y.text,.slice yq y.list.length yd,.int .i64 y.elem] 42)) M (.slice yq y.list.length yd) y.list):=
      hPA.away (lo:=wr.heap.size) (YL2.out.below zc) (fun b hb _=>by
       rcases hb with h|h
       ·exact ⟨.inl h,.inl (by have:=HP.out b h;have:=HB1.out.size;omega)⟩
       ·exact ⟨.inr (by have:=HPR.out.Bw;omega),.inr h⟩) (fun b hb=>(HPR.out.rowBlk hb).2)
     clear zc hPA
     go_wp2_with (at_builtin;go_must (refine wpList_append_own_at _ rfl _ _ 31 rfl W1.heap.size 42 i0 _ 5 64 Tryz.underlying31 hi0 hi1 hi2 hi3 rfl (by decide) (.slice sp i sc) i (cellsL items) rfl hrow ⟨V2.heap.size,0,none⟩ 1 1 (y.cells (.slice yq y.list.length yd)) rfl rfl (vt_new V2 _ _ _) (vt_one _ _ _ _) hmx hmb hBV ?_;intro v' w6 hown6 hgrow6 hnil6 hat6))
     rw [←HITL.out] at hown6
     have HP6:Hid (PRL W1.heap.size 42 (fun b=>P b∨W1.heap.size≤b) W1 (items++[(y,.slice yq y.list.length yd)]) v' w6):=HPA.out.push (x:=(y,.slice yq y.list.length yd)) YF.out HYA.out hown6 hgrow6 hat6
     have HT6:Hid ((items++[((y,.slice yq y.list.length yd):VT×Value)]).map (·.1)=(List.zipWith (itemP (readF n)) fs l).take (i+1)):=zip_takes HFI.out HXI.out HT.out HIT.out.symm
     clear hown6 hgrow6 hnil6 hat6 hrow hBV
     go_roundw
     case rel=>exact ⟨i+1,_,by go_num,by omega,HT6.out,HP6.out⟩
     case measure=>simp [intOf];omega
  ·obtain rfl:i=m:=by omega
   have HT':Hid (items.map (·.1)=List.zipWith (itemP (readF n)) fs l):=by
    have h1:=Hm.out;have h2:=Hfm.out
    exact HT.out.trans (List.take_of_length_le (by rw [List.length_zipWith];omega))
   have hil:items.length=i:=by
    have:=congrArg List.length HT'.out
    simp only [List.length_map,List.length_zipWith] at this
    have h1:=Hm.out;have h2:=Hfm.out
    omega
   obtain ⟨sp0,sc0,rfl⟩:=HPR.out.form
   rw [hil] at HPR ⊢
   have HPQ:Hid (PRL W1.heap.size 42 (fun b=>P b∨W1.heap.size≤b) W1 (items.take i) (.slice sp0 i sc0) wr):=by rw [←hil,List.take_length,hil];exact HPR.out
   have HKZ:Hid (∀ (j:Nat) (x:VT×Value),i≤j→items[j]? =some x→x.1.kind=0):=fun j x hj hx=>by have:=(List.getElem?_eq_some_iff.1 hx).1;omega
   have HIL:=Lib.hid hil
   clear HT hi HPR hlt hil
   go_wp2
   clear ls
   go_loopw [5] (fun sv wq=>∃ (q:Nat) (sp:Option Addr) (sc:Nat),sv= .slice sp q sc∧q≤i∧Hid (∀ (j:Nat) (x:VT×Value),q≤j→items[j]? =some x→x.1.kind=0)∧Hid (PRL W1.heap.size 42 (fun b=>P b∨W1.heap.size≤b) W1 (items.take q) sv wq)) (fun sv _=>match sv with| .slice _ q _=>q|_=>0)
   case atStart=>exact ⟨i,sp0,sc0,rfl,Nat.le_refl _,HKZ.out,HPQ.out⟩
   case round=>
    obtain ⟨q,spq,scq,rfl,hq,HKQ,HPQ'⟩:=hrel
    have hqm:q≤maxLen:=by unfold maxLen;omega
    by_cases hq0:q=0
    ·subst hq0
     have HEX:Hid (0=0∨∃ x,(items.map (·.1))[0-1]? =some x∧x.kind≠0):= .inl rfl
     have HLQ:Hid ((items.take 0).length=0):=by show _=0;rw [List.length_take];have:=HIL.out;omega
     have HTR:Hid ((items.take 0).map (·.1)=trimT (List.zipWith (itemP (readF n)) fs l)):=by
      show _=_
      rw [←HT'.out,trim_at (items.map (·.1)) 0 (by rw [List.length_map];have:=HIL.out;omega) (fun j x hj hx=>by
       rw [List.getElem?_map] at hx
       obtain ⟨y,hy,rfl⟩:=Option.map_eq_some_iff.1 hx
       exact HKQ.out j y hj hy) HEX.out,List.map_take]
     have l8:(Instr.loadAt 3 (.pointer (some ⟨w.heap.size,0,none⟩))).run Tryz.prog wr= .ok (.int .i64 k) wr:=pload_int ((X1.out.below HPQ'.out.below (by omega)).cell (j:=0) rfl)
     have hcv:IntKind.u64.wrap k=k:=by rw [IntKind.wrap_u64];omega
     obtain ⟨W2,hW2⟩:∃ W2,wr.alloc (.cells #[.int .i64 5,.int .u64 k,.string ⟨#[]⟩,.slice none 0 0,.int .i64 0,.int .i64 21,.int .u64 0,.string ⟨#[]⟩,.slice spq 0 scq,.int .i64 0] 42)=W2:=⟨_,rfl⟩
     have zb:Below wr.heap.size wr W2:=by rw [←hW2];exact (Below.refl _ _).alloc (Nat.le_refl _) _
     have x6:=(X2.out.below HPQ'.out.below (by omega)).below zb (by have:=HPQ'.out.Bw;omega)
     have hst6:=wstore_value (t:=packV k []) (a:=some ⟨wr.heap.size,0,none⟩) (n:=2) (c:=2) (x6.part (o:=0) (n:=5) (Nat.le_refl _))
     have y6:=x6.all (vs:=(packV k []).cells (.slice (some ⟨wr.heap.size,0,none⟩) 2 2)) rfl
     obtain ⟨X6,hX6⟩:∃ X6,W2.setCells (w.heap.size+1) 0 ((packV k []).cells (.slice (some ⟨wr.heap.size,0,none⟩) 2 2))=X6:=⟨_,rfl⟩
     have hend:=HPQ'.out.packed (T2:=42) (b:=w.heap.size+1) (vs:=(packV k []).cells (.slice (some ⟨wr.heap.size,0,none⟩) 2 2)) (k:=k) (X:=X6) (fun b' h=> .inr h) (by
      rintro (h|h)
      ·have:=HP.out _ h;omega
      ·omega) (by rw [HLQ.out];exact hqm) hkb rfl (by rw [←hX6,←hW2];rfl)
     have hbel:Below w.heap.size w X6:=by
      rw [←hX6]
      exact ((HB1.out.trans (HPQ'.out.below.mono (by omega))).trans (zb.mono (by have:=HPQ'.out.Bw;omega))).trans (setCells_below' (by omega) _ _)
     rw [hX6] at hst6 y6
     have HLV:=Lib.hid (ploadVar_value y6.1)
     have HEND:=Lib.hid hend
     have HBEL:=Lib.hid hbel
     replace hst6:(Instr.storeAt 42 (.pointer (some ⟨w.heap.size+1,0,none⟩)) (.agg #[.int .i64 24,.int .u64 0,.string ⟨#[]⟩,.slice (some ⟨wr.heap.size,0,none⟩) 2 2,.int .i64 0])).run Tryz.prog W2= .ok () X6:=hst6
     clear zb x6 y6 hend hbel hX6
     have HAN:Hid (RPkAns P R w (.returned ((packV k []).agg (.slice (some ⟨wr.heap.size,0,none⟩) 2 2))) X6):=by
      obtain ⟨M,hM⟩:=HEND.out
      refine ⟨_,M,by rw [HR.out];rfl,?_,HBEL.out⟩
      rw [HR.out,←HTR.out]
      exact hM.weak fun b hb _=>hb.elim .inl fun h=> .inr (by omega)
     go_wp2
     exact bodyPost_ret_by (resultsMid rfl rfl HLV.out) rfl HAN.out
    ·obtain ⟨q,rfl⟩:∃ q',q=q'+1:=⟨q-1,by omega⟩
     obtain ⟨x,hx⟩:∃ x,items[q]? =some x:=⟨_,List.getElem?_eq_getElem (by have:=HIL.out;omega)⟩
     have hxq:(items.take (q+1))[q]? =some x:=by rw [List.getElem?_take_of_lt (by omega)];exact hx
     obtain ⟨g,cc,e,ha, -, -⟩:=HPQ'.out.at hxq
     simp only [Value.slice.injEq] at e
     obtain ⟨rfl, -, -⟩:=e
     have hq1:(0:Int)<((q+1:Nat):Int):=by omega
     have l7:=pload_int ha.kind
     have hqs:IntKind.i64.wrap ((q:Int)+1-1)=(q:Int):=by rw [IntKind.wrap_i64];omega
     have hqs2:((q:Int)+1).toNat=q+1:=by omega
     have hcq:q≤scq:=by have:=HPQ'.out.cap;omega
     clear ha hxq
     by_cases hk0:x.1.kind=0
     ·have HKN:Hid (∀ (j:Nat) (y:VT×Value),q≤j→items[j]? =some y→y.1.kind=0):=fun j y hj hy=>by
       rcases Nat.lt_or_ge q j with h|h
       ·exact HKQ.out j y h hy
       ·obtain rfl:q=j:=by omega
        rw [hx] at hy;cases hy;exact hk0
      have HPN:Hid (PRL W1.heap.size 42 (fun b=>P b∨W1.heap.size≤b) W1 (items.take q) (.slice (some ⟨g,0,none⟩) q scq) wr):=by
       have:=HPQ'.out.cut (m:=q) (by omega)
       rwa [List.take_take,Nat.min_eq_left (by omega)] at this
      rw [hk0] at l7
      clear hx hk0
      go_wp2
      exact ⟨⟨q,_,_,rfl,by omega,HKN.out,HPN.out⟩,by simp⟩
     ·have HEX:Hid (q+1=0∨∃ x,(items.map (·.1))[q+1-1]? =some x∧x.kind≠0):= .inr ⟨x.1,by show (items.map (·.1))[q]? =_;rw [List.getElem?_map,hx];rfl,hk0⟩
      have hkk:(x.1.kind==0)=false:=by simp [hk0]
      clear hx
      have HLQ:Hid ((items.take (q+1)).length=(q+1)):=by show _=(q+1);rw [List.length_take];have:=HIL.out;omega
      have HTR:Hid ((items.take (q+1)).map (·.1)=trimT (List.zipWith (itemP (readF n)) fs l)):=by
       show _=_
       rw [←HT'.out,trim_at (items.map (·.1)) (q+1) (by rw [List.length_map];have:=HIL.out;omega) (fun j x hj hx=>by
        rw [List.getElem?_map] at hx
        obtain ⟨y,hy,rfl⟩:=Option.map_eq_some_iff.1 hx
        exact HKQ.out j y hj hy) HEX.out,List.map_take]
      have l8:(Instr.loadAt 3 (.pointer (some ⟨w.heap.size,0,none⟩))).run Tryz.prog wr= .ok (.int .i64 k) wr:=pload_int ((X1.out.below HPQ'.out.below (by omega)).cell (j:=0) rfl)
      have hcv:IntKind.u64.wrap k=k:=by rw [IntKind.wrap_u64];omega
      obtain ⟨W2,hW2⟩:∃ W2,wr.alloc (.cells #[.int .i64 5,.int .u64 k,.string ⟨#[]⟩,.slice none 0 0,.int .i64 0,.int .i64 21,.int .u64 0,.string ⟨#[]⟩,.slice (some ⟨g,0,none⟩) (q+1) scq,.int .i64 0] 42)=W2:=⟨_,rfl⟩
      have zb:Below wr.heap.size wr W2:=by rw [←hW2];exact (Below.refl _ _).alloc (Nat.le_refl _) _
      have x6:=(X2.out.below HPQ'.out.below (by omega)).below zb (by have:=HPQ'.out.Bw;omega)
      have hst6:=wstore_value (t:=packV k []) (a:=some ⟨wr.heap.size,0,none⟩) (n:=2) (c:=2) (x6.part (o:=0) (n:=5) (Nat.le_refl _))
      have y6:=x6.all (vs:=(packV k []).cells (.slice (some ⟨wr.heap.size,0,none⟩) 2 2)) rfl
      obtain ⟨X6,hX6⟩:∃ X6,W2.setCells (w.heap.size+1) 0 ((packV k []).cells (.slice (some ⟨wr.heap.size,0,none⟩) 2 2))=X6:=⟨_,rfl⟩
      have hend:=HPQ'.out.packed (T2:=42) (b:=w.heap.size+1) (vs:=(packV k []).cells (.slice (some ⟨wr.heap.size,0,none⟩) 2 2)) (k:=k) (X:=X6) (fun b' h=> .inr h) (by
       rintro (h|h)
       ·have:=HP.out _ h;omega
       ·omega) (by rw [HLQ.out];exact hqm) hkb rfl (by rw [←hX6,←hW2];rfl)
      have hbel:Below w.heap.size w X6:=by
       rw [←hX6]
       exact ((HB1.out.trans (HPQ'.out.below.mono (by omega))).trans (zb.mono (by have:=HPQ'.out.Bw;omega))).trans (setCells_below' (by omega) _ _)
      rw [hX6] at hst6 y6
      have HLV:=Lib.hid (ploadVar_value y6.1)
      have HEND:=Lib.hid hend
      have HBEL:=Lib.hid hbel
      replace hst6:(Instr.storeAt 42 (.pointer (some ⟨w.heap.size+1,0,none⟩)) (.agg #[.int .i64 24,.int .u64 0,.string ⟨#[]⟩,.slice (some ⟨wr.heap.size,0,none⟩) 2 2,.int .i64 0])).run Tryz.prog W2= .ok () X6:=hst6
      clear zb x6 y6 hend hbel hX6
      have HAN:Hid (RPkAns P R w (.returned ((packV k []).agg (.slice (some ⟨wr.heap.size,0,none⟩) 2 2))) X6):=by
       obtain ⟨M,hM⟩:=HEND.out
       refine ⟨_,M,by rw [HR.out];rfl,?_,HBEL.out⟩
       rw [HR.out,←HTR.out]
       exact hM.weak fun b hb _=>hb.elim .inl fun h=> .inr (by omega)
      go_wp2
      exact bodyPost_ret_by (resultsMid rfl rfl HLV.out) rfl HAN.out
end Go.Proofs.YtfoiaiblggapeaaGreatDoor.Va
