/-
  The texts R4 R1 R2 R5 R6 R7 R8 of this claim, one behind the other.
-/
import Derived.Test.YtmldhjoolebjoaaGreatDoorZTFB6
import Derived.Test.YtmldhjoolebjoaaGreatDoorZTFB2
import Derived.Test.YtmldhjoolebjoaaGreatDoorZTFB0
import Derived.Deep.RegionHeld3
import Derived.Deep.DrawnRows
import Derived.Test.YtmldhjoolebjoaaGreatDoorZTFA1
import Derived.Test.YtmldhjoolebjoaaGreatDoorZTFB1
set_option maxHeartbeats 40000000
set_option maxRecDepth 100000
namespace Go.Proofs.YtmldhjoolebjoaaGreatDoor.Va
open Go Go.RowKit Nu Uc
theorem QF (k m:Int) (s:ByteArray) (p:Option Addr) (n c:Nat) (e:Int) (w:World) (hn:n≤9223372036854775807) (h0:0≤k) (h24:k≤24):
 Calls Tryz.prog 170 #[.agg #[.int .i64 k,.int .u64 m,.string s,.slice p n c,.int .i64 e]] w fun r w'=>r= .returned (.bool (gU k m s e n))∧Below w.heap.size w w':=by
 have iM:Hid (∀ o:Obj,Below w.heap.size w (w.alloc o)):=fun o=>(Below.refl _ _).alloc (Nat.le_refl _) _
 obtain ⟨R,hR⟩:∃ R,gU k m s e n=R:=⟨_,rfl⟩
 rw [hR]
 by_cases hk:k=0
 ·subst hk
  have HR:Hid (R=(decide (m≠0)||decide (s.size≠0)||decide (0<n)||decide (e≠0))):=by
   show R=_
   rw [←hR]
   have x1:sI 0=false:=by decide
   have x2:sJ 0=false:=by decide
   have x3:wR 0=false:=by decide
   unfold gU
   rw [x1,x2,x3]
   by_cases y1:m=0<;>by_cases y2:s.size=0<;>by_cases y3:n=0<;>by_cases y4:e=0<;>simp [y1,y2,y3,y4]<;>omega
  clear hR
  go_enter Tryz.func170,Tryz.ntmps170
  go_wp2
  all_goals
   go_ret
   refine ⟨ay ?_,iM.out _⟩
   rw [HR.out]
   clear HR iM
   first
    |(simp_all;done)
    |(simp_all [toList_nil];done)
    |(by_cases y2:e=0<;>by_cases y1:0<n<;>simp_all [toList_nil]<;>omega)
    |(by_cases y2:e=0<;>by_cases y1:0<n<;>simp_all [toList_nil])
 have nk0:=hk
 clear hk
 by_cases hk:k=14
 ·subst hk
  have HR:Hid (R=(decide (m≠0)||decide (0<n)||decide (e≠0))):=by
   show R=_
   rw [←hR]
   have x1:sI 14=true:=by decide
   have x2:sJ 14=false:=by decide
   have x3:wR 14=false:=by decide
   unfold gU
   rw [x1,x2,x3]
   by_cases y1:m=0<;>by_cases y2:s.size=0<;>by_cases y3:n=0<;>by_cases y4:e=0<;>simp [y1,y2,y3,y4]<;>omega
  clear hR
  go_enter Tryz.func170,Tryz.ntmps170
  go_wp2
  all_goals
   go_ret
   refine ⟨ay ?_,iM.out _⟩
   rw [HR.out]
   clear HR iM
   first
    |(simp_all;done)
    |(simp_all;done)
    |(by_cases y2:e=0<;>by_cases y1:0<n<;>simp_all<;>omega)
    |(by_cases y2:e=0<;>by_cases y1:0<n<;>simp_all [toList_nil])
 have nk14:=hk
 clear hk
 by_cases hk:k=23
 ·subst hk
  have HR:Hid (R=(decide (m≠0)||decide (s.size≠0))):=by
   show R=_
   rw [←hR]
   have x1:sI 23=false:=by decide
   have x2:sJ 23=true:=by decide
   have x3:wR 23=false:=by decide
   unfold gU
   rw [x1,x2,x3]
   by_cases y1:m=0<;>by_cases y2:s.size=0<;>by_cases y3:n=0<;>by_cases y4:e=0<;>simp [y1,y2,y3,y4]<;>omega
  clear hR
  go_enter Tryz.func170,Tryz.ntmps170
  go_wp2
  all_goals
   go_ret
   refine ⟨ay ?_,iM.out _⟩
   rw [HR.out]
   clear HR iM
   first
    |(simp_all;done)
    |(simp_all [toList_nil];done)
    |(by_cases y2:e=0<;>by_cases y1:0<n<;>simp_all [toList_nil]<;>omega)
    |(by_cases y2:e=0<;>by_cases y1:0<n<;>simp_all [toList_nil])
 by_cases hg:k≤16
 ·have HR:Hid (R=(decide (s.size≠0)||decide (0<n)||decide (e≠0))):=by
   show R=_
   rw [←hR]
   have x1:sI k=false:=by simp only [sI,Bool.or_eq_false_iff,beq_eq_false_iff_ne,ne_eq];omega
   have x2:sJ k=false:=by simp only [sJ,Bool.or_eq_false_iff,beq_eq_false_iff_ne,ne_eq];omega
   have x3:wR k=true:=by rw [wR,x1,x2];simp<;>omega
   unfold gU
   rw [x1,x2,x3]
   by_cases y1:m=0<;>by_cases y2:s.size=0<;>by_cases y3:n=0<;>by_cases y4:e=0<;>simp [y1,y2,y3,y4]<;>omega
  clear hR
  have f0:1≤k:=by omega
  have f1:¬k=14:=by omega
  have f2:¬17≤k:=by omega
  have f3:¬21≤k:=by omega
  have f4:¬k=23:=by omega
  go_enter Tryz.func170,Tryz.ntmps170
  go_wp2
  all_goals
   go_ret
   refine ⟨ay ?_,iM.out _⟩
   rw [HR.out]
   clear HR iM
   first
    |(simp_all;done)
    |(simp_all [toList_nil];done)
    |(by_cases y2:e=0<;>by_cases y1:0<n<;>simp_all [toList_nil]<;>omega)
    |(by_cases y2:e=0<;>by_cases y1:0<n<;>simp_all [toList_nil])
 by_cases hg2:k≤20
 ·have HR:Hid (R=(decide (m≠0)||decide (0<n)||decide (e≠0))):=by
   show R=_
   rw [←hR]
   have x1:sI k=true:=by simp only [sI,Bool.or_eq_true,beq_iff_eq];omega
   have x2:sJ k=false:=by simp only [sJ,Bool.or_eq_false_iff,beq_eq_false_iff_ne,ne_eq];omega
   have x3:wR k=false:=by rw [wR,x1,x2];simp<;>omega
   unfold gU
   rw [x1,x2,x3]
   by_cases y1:m=0<;>by_cases y2:s.size=0<;>by_cases y3:n=0<;>by_cases y4:e=0<;>simp [y1,y2,y3,y4]<;>omega
  clear hR
  have f0:1≤k:=by omega
  have f1:¬k≤16:=by omega
  have f2:¬k=14:=by omega
  have f3:17≤k:=by omega
  have f4:¬21≤k:=by omega
  have f5:¬k=23:=by omega
  go_enter Tryz.func170,Tryz.ntmps170
  go_wp2
  all_goals
   go_ret
   refine ⟨ay ?_,iM.out _⟩
   rw [HR.out]
   clear HR iM
   first
    |(simp_all;done)
    |(simp_all;done)
    |(by_cases y2:e=0<;>by_cases y1:0<n<;>simp_all<;>omega)
    |(by_cases y2:e=0<;>by_cases y1:0<n<;>simp_all [toList_nil])
 have HR:Hid (R=(decide (m≠0)||decide (s.size≠0)||decide (e≠0))):=by
  show R=_
  rw [←hR]
  have x1:sI k=false:=by simp only [sI,Bool.or_eq_false_iff,beq_eq_false_iff_ne,ne_eq];omega
  have x2:sJ k=true:=by simp only [sJ,Bool.or_eq_true,beq_iff_eq];omega
  have x3:wR k=false:=by rw [wR,x1,x2];simp<;>omega
  unfold gU
  rw [x1,x2,x3]
  by_cases y1:m=0<;>by_cases y2:s.size=0<;>by_cases y3:n=0<;>by_cases y4:e=0<;>simp [y1,y2,y3,y4]<;>omega
 clear hR
 have f0:1≤k:=by omega
 have f1:¬k≤16:=by omega
 have f2:¬k=14:=by omega
 have f3:17≤k:=by omega
 have f4:¬k≤20:=by omega
 have f5:21≤k:=by omega
 have f6:¬k=23:=by omega
 go_enter Tryz.func170,Tryz.ntmps170
 go_wp2
 all_goals
  go_ret
  refine ⟨ay ?_,iM.out _⟩
  rw [HR.out]
  clear HR iM
  first
   |(simp_all;done)
   |(simp_all [toList_nil];done)
   |(by_cases y2:e=0<;>by_cases y1:0<n<;>simp_all [toList_nil]<;>omega)
   |(by_cases y2:e=0<;>by_cases y1:0<n<;>simp_all [toList_nil])
end Go.Proofs.YtmldhjoolebjoaaGreatDoor.Va
namespace Go.Proofs.YtmldhjoolebjoaaGreatDoor.Va
open Go Go.RowKit Nu
attribute [-go_sem] Go.Instr.loadAt Go.Instr.storeAt
def RdS (N:Nat):Prop:=∀ (B:Nat) (t:VT) (lv:Value) (w:World),bR B w N lv t.list→B≤w.heap.size→nodes t≤900000000→
    Calls Tryz.prog 101 #[t.agg lv] w fun r w'=>r= .returned (.int .i64 (gV t:Nat))∧Below w.heap.size w w'
theorem aa8:∀ N,RdS N:=by
 intro N
 induction N with
 |zero=>intro B t lv w h;exact h.elim
 |succ N ih=>
  intro B t lv w hl hB hn
  have HS:=ajd ih
  have HL:=ajd hl
  obtain ⟨p,c,rfl⟩:=hl.slice
  have hlen:t.list.length≤9223372036854775807:=hl.len
  obtain ⟨W1,hW1⟩:∃ W1,w.alloc (.cells #[.int .i64 t.kind,.int .u64 t.num,.string t.text,.slice p t.list.length c,.int .i64 t.elem] 25)=W1:=⟨_,rfl⟩
  obtain ⟨b1,b2,b3⟩:=kP hW1
  have HK:Hid (∀ v,Below (w.heap.size+1) W1 v→(Instr.loadAt 23 (.pointer (some ⟨w.heap.size,3,none⟩))).run Tryz.prog v= .ok (.slice p t.list.length c) v∧Below w.heap.size w v):=fun v h=>
   ⟨aF ((h.cell (p:=⟨w.heap.size,3,none⟩) (Nat.lt_succ_self _)).trans (ow (Cells.of_heap (cs:=t.cells (.slice p t.list.length c)) b1) 3 _ rfl)),b3.trans (h.mono (Nat.le_succ _))⟩
  have hnd:=ajd (aX t)
  have hdd:=ajd (zJ t)
  obtain ⟨D,hD⟩:∃ D,gV t=D:=⟨_,rfl⟩
  have HD:=ajd hD
  rw [hD]
  obtain ⟨m,hm⟩:∃ m,t.list.length=m:=⟨_,rfl⟩
  have Hm:=ajd hm
  rw [hm] at hlen HL HK
  clear hl ih b1 b3 hD
  go_enter Tryz.func101,Tryz.ntmps101
  rw [hm] at hW1 ⊢
  clear hm
  go_wp2
  clear hW1
  go_loopw [3,4] (fun v i wr=>∃ (j:Nat),v= .int .i64 (dH (t.list.take j):Nat)∧i= .int .i64 j∧j≤m∧Hid (Below (w.heap.size+1) W1 wr)) (fun _ i _=>m-(intOf i).toNat)
  case atStart=>exact ⟨0,by simp [dH],rfl,Nat.zero_le _,Below.refl _ _⟩
  case round=>
   obtain ⟨j,rfl,rfl,hj,hb⟩:=hrel
   obtain ⟨l1,hbw⟩:=HK.out wr hb.out
   have BW:=ajd hbw
   by_cases hlt:j<m
   ·rcases HL.out with ⟨h0,_⟩|⟨b,off,c',hp,jy,_,hel⟩
    ·exfalso;have:=Hm.out;rw [h0] at this;simp at this;omega
    rw [Hm.out] at hp
    cases hp
    obtain ⟨u,hu⟩:∃ u,t.list[j]? =some u:=⟨_,List.getElem?_eq_getElem (by rw [Hm.out];exact hlt)⟩
    obtain ⟨uf,ulv,hat,Yb⟩:=hel j u hu
    have BQ:Below B w wr:=hbw.mono hB
    have l3:=ag (dW (hat.below BQ jy))
    have hi0:(0:Int)≤(j:Int):=by omega
    have hi1:(j:Int)<(m:Int):=by omega
    have hna:=pV hu
    have HC:=ajd (HS.out B u ulv wr (Yb.below BQ) (by have:=hbw.size;omega) (by have:=hnd.out;omega))
    have hsn:dH (t.list.take (j+1))=max (dH (t.list.take j)) (gV u):=by rw [List.take_add_one,hu,show (some u).toList=[u] from rfl,qV]
    have HSN:=ajd hsn
    have wI:=ajd hb.out.size
    clear hel hat Yb uf hu BQ hna hsn hbw
    generalize dH (t.list.take j)=d0 at*
    go_wp2_with (go_at_call 101;refine HC.out.mono ?_;rintro r w2 ⟨rfl,hb2⟩)
    all_goals
     go_roundw
     case rel=>exact ⟨j+1,by rw [HSN.out];congr 1;omega,by go_num,by omega,hb.out.trans (hb2.mono (by have:=wI.out;omega))⟩
     case measure=>simp [intOf];omega
   ·obtain rfl:j=m:=by omega
    have hfull:t.list.take j=t.list:=List.take_of_length_le (Nat.le_of_eq Hm.out)
    rw [hfull]
    have hle:=qU t.list
    have hw1:IntKind.i64.wrap ((dH t.list:Int)+1)=(dH t.list:Int)+1:=by rw [IntKind.wrap_i64];have:=hnd.out;omega
    go_wp2
    go_ret
    exact ⟨by rw [←HD.out,hdd.out];rfl,BW.out⟩
theorem E9 {k:IntKind} {a b:Int} (h:a=b):Ending.returned (.int k a)= .returned (.int k b):=by rw [h]
def afG:Prop:=∀ (N B:Nat) (t:VT) (lv:Value) (d:Nat) (w:World),t.bD→bR B w N lv t.list→B≤w.heap.size→d≤1000000000→
    Calls Tryz.prog 124 #[t.agg lv,.int .i64 d] w fun r w'=>r= .returned (.int .i64 (cz t d))∧Below w.heap.size w w'
def RcS (N:Nat):Prop:=∀ (B:Nat) (t:VT) (lv:Value) (d:Nat) (w:World),t.bD→bR B w N lv t.list→B≤w.heap.size→d+nodes t≤1000000000→
    Calls Tryz.prog 99 #[t.agg lv,.int .i64 d] w fun r w'=>r= .returned (.int .i64 (aB t d))∧Below w.heap.size w w'
theorem aa9 (HO:afG):∀ N,RcS N:=by
 intro N
 induction N with
 |zero=>intro B t lv d w _ h;exact h.elim
 |succ N ih=>
  intro B t lv d w hf hl hB hn
  have HS:=ajd ih
  have HL:=ajd hl
  obtain ⟨p,c,rfl⟩:=hl.slice
  have hlen:t.list.length≤9223372036854775807:=hl.len
  obtain ⟨W1,hW1⟩:∃ W1,w.alloc (.cells #[.int .i64 t.kind,.int .u64 t.num,.string t.text,.slice p t.list.length c,.int .i64 t.elem] 25)=W1:=⟨_,rfl⟩
  obtain ⟨b1,b2,b3⟩:=kP hW1
  have k1:Cells W1 w.heap.size 0 (t.cells (.slice p t.list.length c)):=Cells.of_heap (cs:=t.cells (.slice p t.list.length c)) b1
  have l0:=ag k1
  have HOW:=ajd (HO (N+1) B t (.slice p t.list.length c) d W1 hf (hl.below (b3.mono hB)) (by omega) (by omega))
  have HK:Hid (∀ v,Below (w.heap.size+1) W1 v→(Instr.loadAt 23 (.pointer (some ⟨w.heap.size,3,none⟩))).run Tryz.prog v= .ok (.slice p t.list.length c) v∧Below w.heap.size w v):=fun v h=>
   ⟨aF ((h.cell (p:=⟨w.heap.size,3,none⟩) (Nat.lt_succ_self _)).trans (ow k1 3 _ rfl)),b3.trans (h.mono (Nat.le_succ _))⟩
  have hnd:=ajd (aX t)
  have HCE:=ajd (pR t d)
  obtain ⟨R,hR⟩:∃ R,aB t d=R:=⟨_,rfl⟩
  rw [hR] at HCE ⊢
  clear hl ih b1 b3 k1 hR hf
  obtain ⟨k,hk⟩:∃ k,cz t d=k:=⟨_,rfl⟩
  rw [hk] at HCE HOW
  clear hk
  go_enter Tryz.func99,Tryz.ntmps99
  go_wp2_with (fail)
  clear hW1 l0
  refine HOW.out.mono ?_
  rintro r w2 ⟨rfl,hb2⟩
  have B2:=ajd (hb2.mono (Nat.le_of_eq b2.symm))
  have hz2:w.heap.size+1≤w2.heap.size:=by have:=hb2.size;omega
  obtain ⟨_,hbw⟩:=HK.out w2 B2.out
  have BW2:=ajd hbw
  clear hb2 hbw HOW
  by_cases hk0:k=0
  ·subst hk0
   have HQ0:Hid (bT (t.list.drop 0) (d+1)=R):=by
    show _=_
    rw [List.drop_zero,HCE.out];simp
   obtain ⟨m,hm⟩:∃ m,t.list.length=m:=⟨_,rfl⟩
   have Hm:=ajd hm
   rw [hm] at hlen HL HK ⊢
   clear hm HCE
   go_wp2
   go_loopw [5,6] (fun e i wr=>∃ (j:Nat),i= .int .i64 j∧j≤m∧Hid (bT (t.list.drop j) (d+1)=R)∧Hid (Below (w.heap.size+1) W1 wr)) (fun _ i _=>m-(intOf i).toNat)
   case atStart=>exact ⟨0,rfl,Nat.zero_le _,HQ0,B2⟩
   case round=>
    obtain ⟨j,rfl,hj,HQ,hb⟩:=hrel
    obtain ⟨l1,hbw⟩:=HK.out wr hb.out
    have BW:=ajd hbw
    by_cases hlt:j<m
    ·rcases HL.out with ⟨h0,_⟩|⟨b,off,c',hp,jy,_,hel⟩
     ·exfalso;have:=Hm.out;rw [h0] at this;simp at this;omega
     rw [Hm.out] at hp
     cases hp
     obtain ⟨u,hu⟩:∃ u,t.list[j]? =some u:=⟨_,List.getElem?_eq_getElem (by rw [Hm.out];exact hlt)⟩
     obtain ⟨uf,ulv,hat,Yb⟩:=hel j u hu
     have BQ:Below B w wr:=hbw.mono hB
     have l3:=ag (dW (hat.below BQ jy))
     have hi0:(0:Int)≤(j:Int):=by omega
     have hi1:(j:Int)<(m:Int):=by omega
     have hna:=pV hu
     have hwd:IntKind.i64.wrap ((d:Int)+1)=d+1:=by rw [IntKind.wrap_i64];have:=hnd.out;omega
     have hc:=HS.out B u ulv (d+1) wr uf (Yb.below BQ) (by have:=hbw.size;omega) (by have:=hnd.out;omega)
     have hst:=qP hu ((d:Int)+1)
     obtain ⟨X,hX⟩:∃ X,aB u ((d:Int)+1)=X:=⟨_,rfl⟩
     rw [hX] at hst
     have hc':Calls Tryz.prog 99 #[u.agg ulv,.int .i64 ((d:Int)+1)] wr fun r w'=>r= .returned (.int .i64 X)∧Below wr.heap.size wr w':=by rw [←hX];exact hc
     have HC:=ajd hc'
     have HST:=ajd hst
     have wI:=ajd hb.out.size
     clear hel hat Yb uf hu BQ hna hc hc' hst hX hbw
     by_cases hX0:X=0
     ·subst hX0
      go_wp2_with (go_at_call 99;refine HC.out.mono ?_;rintro r w4 ⟨rfl,hb4⟩)
      go_roundw
      case rel=>exact ⟨j+1,by go_num,by omega,by show _=_;rw [←HQ.out,HST.out];simp,hb.out.trans (hb4.mono (by have:=wI.out;omega))⟩
      case measure=>simp [intOf];omega
     ·have hne:(X !=0)=true:=by simp [hX0]
      have HX0:=ajd hX0
      clear hX0
      go_wp2_with (go_at_call 99;refine HC.out.mono ?_;rintro r w4 ⟨rfl,hb4⟩)
      go_ret
      exact ⟨E9 (by rw [←HQ.out,HST.out,if_pos HX0.out]),BW.out.trans (hb4.mono BW.out.size)⟩
    ·obtain rfl:j=m:=by omega
     go_wp2
     go_ret
     exact ⟨E9 (by rw [←HQ.out,←Hm.out,A8]),BW.out⟩
  ·have hne:(k !=0)=true:=by simp [hk0]
   have HR:Hid (R=k):=by show R=k;rw [HCE.out,if_pos hk0]
   clear hk0 HCE
   go_wp2
   go_ret
   exact ⟨E9 HR.out.symm,BW2.out⟩
end Go.Proofs.YtmldhjoolebjoaaGreatDoor.Va
namespace Go.Proofs.YtmldhjoolebjoaaGreatDoor.Va
open Go Go.RowKit Nu
attribute [local go_sem ↓] Go.wp_at_zero Go.wp_at_succ
theorem vR {w:World} {a:Addr} {v:Value} (h:w.cell? a=some v):(Instr.loadAt 3 (.pointer (some a))).run Tryz.prog w= .ok v w:=by
 have:=Tryz.underlying3
 have:=Tryz.sizeOf3
 go_simp
theorem AV {a b:Bool} (h:a=b):Ending.returned (.bool a)= .returned (.bool b):=by rw [h]
attribute [-go_sem] Go.Instr.loadAt Go.Instr.storeAt
theorem Y9 {N B:Nat} (t:VT) (lv:Value) (w:World) (hl:bR B w N lv t.list) (hB:B≤w.heap.size):
 Calls Tryz.prog 174 #[t.agg lv] w fun r w'=>r= .returned (.bool (rT t.elem t.list))∧Below w.heap.size w w':=by
 have HL:=ajd hl
 obtain ⟨p,c,rfl⟩:=hl.slice
 have hlen:t.list.length≤9223372036854775807:=hl.len
 obtain ⟨W1,hW1⟩:∃ W1,w.alloc (.cells #[.int .i64 t.kind,.int .u64 t.num,.string t.text,.slice p t.list.length c,.int .i64 t.elem] 25)=W1:=⟨_,rfl⟩
 obtain ⟨b1,b2,b3⟩:=kP hW1
 have k1:Cells W1 w.heap.size 0 (t.cells (.slice p t.list.length c)):=Cells.of_heap (cs:=t.cells (.slice p t.list.length c)) b1
 have l0:=vR (ow k1 4 _ rfl)
 have HK:Hid (∀ v,Below (w.heap.size+1) W1 v→(Instr.loadAt 23 (.pointer (some ⟨w.heap.size,3,none⟩))).run Tryz.prog v= .ok (.slice p t.list.length c) v∧(Instr.loadAt 3 (.pointer (some ⟨w.heap.size,4,none⟩))).run Tryz.prog v= .ok (.int .i64 t.elem) v∧Below w.heap.size w v):=fun v h=>
  ⟨aF ((h.cell (p:=⟨w.heap.size,3,none⟩) (Nat.lt_succ_self _)).trans (ow k1 3 _ rfl)),vR ((h.cell (p:=⟨w.heap.size,4,none⟩) (Nat.lt_succ_self _)).trans (ow k1 4 _ rfl)),b3.trans (h.mono (Nat.le_succ _))⟩
 have HB3:=ajd b3
 obtain ⟨R,hR⟩:∃ R,rT t.elem t.list=R:=⟨_,rfl⟩
 have HR:=ajd hR
 rw [hR]
 clear hl b1 b3 k1 hR
 by_cases he:0<t.elem∧t.elem<24
 ·obtain ⟨he0,he1⟩:=he
  have f0:¬t.elem≤0:=by omega
  have f1:¬24≤t.elem:=by omega
  have HQ0:Hid (((t.list.drop 0).all fun u=>decide (u.kind=t.elem))=R):=by
   show _=_
   rw [←HR.out,List.drop_zero]
   simp [rT,he0,he1]
  obtain ⟨m,hm⟩:∃ m,t.list.length=m:=⟨_,rfl⟩
  have Hm:=ajd hm
  rw [hm] at hlen HL HK hW1
  go_enter Tryz.func174,Tryz.ntmps174
  rw [hm]
  clear hm
  go_wp2
  clear hW1 l0
  go_loopw [3] (fun i wr=>∃ (j:Nat),i= .int .i64 j∧j≤m∧Hid (((t.list.drop j).all fun u=>decide (u.kind=t.elem))=R)∧Hid (Below (w.heap.size+1) W1 wr)) (fun i _=>m-(intOf i).toNat)
  case atStart=>exact ⟨0,rfl,Nat.zero_le _,HQ0,Below.refl _ _⟩
  case round=>
   obtain ⟨j,rfl,hj,HQ,hb⟩:=hrel
   obtain ⟨l1,l2,hbw⟩:=HK.out wr hb.out
   have BW:=ajd hbw
   by_cases hlt:j<m
   ·cases N with
    |zero=>exact HL.out.elim
    |succ N=>
    rcases HL.out with ⟨h0,_⟩|⟨b,off,c',hp,jy,_,hel⟩
    ·exfalso;have:=Hm.out;rw [h0] at this;simp at this;omega
    rw [Hm.out] at hp
    cases hp
    obtain ⟨u,hu⟩:∃ u,t.list[j]? =some u:=⟨_,List.getElem?_eq_getElem (by rw [Hm.out];exact hlt)⟩
    obtain ⟨uf,ulv,hat,Yb⟩:=hel j u hu
    have hk:=(hat.below (hbw.mono hB) jy).kind
    have hi0:(0:Int)≤(j:Int):=by omega
    have hi1:(j:Int)<(m:Int):=by omega
    have hst:=ajd (show ((t.list.drop j).all fun u=>decide (u.kind=t.elem))=(decide (u.kind=t.elem)&&((t.list.drop (j+1)).all fun u=>decide (u.kind=t.elem))) by rw [Ih hu,List.all_cons])
    have gu:Hid ((Instr.loadAt 23 (.pointer (some ⟨w.heap.size,3,none⟩))).run Tryz.prog wr.drew= .ok (.slice (some ⟨b,off,none⟩) m c) wr.drew∧(Instr.loadAt 3 (.pointer (some ⟨w.heap.size,4,none⟩))).run Tryz.prog wr.drew= .ok (.int .i64 t.elem) wr.drew∧(Instr.loadAt 3 (.pointer (some ⟨b,off+j*5,none⟩))).run Tryz.prog wr.drew= .ok (.int .i64 u.kind) wr.drew):=
     ⟨(HK.out wr.drew (hb.out.trans (Below.refl _ _).drew)).1,(HK.out wr.drew (hb.out.trans (Below.refl _ _).drew)).2.1,vR hk⟩
    clear hel hat Yb uf hu hk hbw
    by_cases hke:u.kind=t.elem
    ·have e1:(u.kind !=t.elem)=false:=by simp [hke]
     have HKE:=ajd hke
     clear hke
     go_wp2
     go_region_held3 (fun w'=>(Instr.loadAt 23 (.pointer (some ⟨w.heap.size,3,none⟩))).run Tryz.prog w'= .ok (.slice (some ⟨b,off,none⟩) m c) w'∧(Instr.loadAt 3 (.pointer (some ⟨w.heap.size,4,none⟩))).run Tryz.prog w'= .ok (.int .i64 t.elem) w'∧(Instr.loadAt 3 (.pointer (some ⟨b,off+j*5,none⟩))).run Tryz.prog w'= .ok (.int .i64 u.kind) w')
      (first|exact gu.out|assumption)
      (fail)
     clear gu
     go_wp2
     go_roundw
     case rel=>exact ⟨j+1,by go_num,by omega,by show _=_;rw [←HQ.out,hst.out,HKE.out];simp,hb.out.trans (Below.refl _ _).drew⟩
     case measure=>simp [intOf];omega
    ·have e1:(u.kind !=t.elem)=true:=by simp [hke]
     have HKE:=ajd hke
     clear hke
     go_wp2
     go_region_held3 (fun w'=>(Instr.loadAt 23 (.pointer (some ⟨w.heap.size,3,none⟩))).run Tryz.prog w'= .ok (.slice (some ⟨b,off,none⟩) m c) w'∧(Instr.loadAt 3 (.pointer (some ⟨w.heap.size,4,none⟩))).run Tryz.prog w'= .ok (.int .i64 t.elem) w'∧(Instr.loadAt 3 (.pointer (some ⟨b,off+j*5,none⟩))).run Tryz.prog w'= .ok (.int .i64 u.kind) w')
      (first|exact gu.out|assumption)
      (fail)
     clear gu
     go_wp2
     go_ret
     exact ⟨AV (by rw [←HQ.out,hst.out];simp [HKE.out]),BW.out.trans (Below.refl _ _).drew⟩
   ·obtain rfl:j=m:=by omega
    go_wp2
    go_ret
    exact ⟨AV (by rw [←HQ.out,←Hm.out,List.drop_length];rfl),BW.out⟩
 ·have HF:Hid (false=R):=by
   show _=_
   rw [←HR.out]
   unfold rT
   by_cases h1:0<t.elem
   ·have:¬t.elem<24:=fun h=>he ⟨h1,h⟩
    simp [this]
   ·simp [h1]
  go_enter Tryz.func174,Tryz.ntmps174
  clear HR HL
  have hw:Hid (Below w.heap.size w W1):=HB3
  go_wp2
  all_goals first
   |(go_ret;exact ⟨AV HF.out,hw.out⟩)
   |(exfalso;apply he;constructor<;>omega)
end Go.Proofs.YtmldhjoolebjoaaGreatDoor.Va
namespace Go.Proofs.YtmldhjoolebjoaaGreatDoor.Va
open Go Go.RowKit Nu Uc
theorem kN {s:ByteArray} {k:Nat} (h:k<s.size):s[k].toNat=(s.get! k).toNat:=by rw [get!_lt s k h]
theorem Za (s:ByteArray) (w:World) (hs:s.size≤9223372036854775807) (h:0<s.size) (h0:194≤(s.get! 0).toNat) (h1:(s.get! 0).toNat<224):
 Calls Tryz.prog 98 #[.string s] w fun r w'=>r= .returned (.int .i64 (ch s 0:Nat))∧w'=w:=by
 have HL:=ajd (ag7 h h0 h1)
 have hb:=ajd (kN h)
 have c0:(194:Int)≤(s[0].toNat:Int):=by rw [kN h];omega
 have c1:(s[0].toNat:Int)<224:=by rw [kN h];omega
 have c2:(0:Int)<(s.size:Int):=by omega
 clear h0 h1
 by_cases hz:s.size<2
 ·have HE:Hid (((ch s 0:Nat):Int)=0):=by show _=_;rw [HL.out,if_pos hz]
  have hzi:(s.size:Int)<2:=by omega
  clear HL hz
  go_enter Tryz.func98,Tryz.ntmps98
  go_wp2
  go_ret
  exact ⟨dA HE.out.symm,rfl⟩
 ·have HE:Hid (kM s 2 128 1 1 ((s[0].toNat:Int)-192)=((ch s 0:Nat):Int)):=by show _=_;rw [HL.out,if_neg hz,kN h]
  have hzi:(2:Int)≤(s.size:Int):=by omega
  clear HL hb
  go_enter Tryz.func98,Tryz.ntmps98
  go_wp2
  go_loop [5,7,8] (fun p i _=>∃ (j:Nat) (q:Int),p= .int .i64 q∧i= .int .i64 j∧1≤j∧j≤2∧Hid (0≤q∧(j≠1∨q<64)∧(j≠2∨q<4096)∧(j≠3∨q<262144)∧q<16777216)∧Hid (kM s 2 128 (2-j) j q=((ch s 0:Nat):Int))) (fun _ i _=>2-(intOf i).toNat)
  case atStart=>exact ⟨1,_,rfl,rfl,Nat.le_refl _,by omega,⟨by omega,by omega,by omega,by omega,by omega⟩,HE.out⟩
  case round=>
   obtain ⟨j,q,rfl,rfl,hj1,hj,HR,HQ⟩:=hrel
   by_cases hlt:j<2
   ·have hjs:j<s.size:=by omega
    have hbb:=kN hjs
    have hq:=HQ.out
    rw [show 2-j=(2-(j+1))+1 by omega,CZ,←hbb] at hq
    have hr:=HR.out
    have hji:(j:Int)<(s.size:Int):=by omega
    have hj0:(0:Int)≤(j:Int):=by omega
    have hjn:(j:Int)<2:=by omega
    have d1:(s[j].toNat:Int)≤255:=by have:=s[j].toNat_lt;omega
    have q0:0≤q:=hr.1
    have q1:q≤262144:=by omega
    by_cases hd:s[j].toNat<128∨191<s[j].toNat
    ·rw [if_pos hd] at hq
     have HZ:=ajd hq
     clear hq hbb hr
     rcases hd with hd|hd
     ·have hdi:(s[j].toNat:Int)<128:=by omega
      clear hd
      go_wp2
      go_ret
      exact ⟨dA HZ.out,rfl⟩
     ·have hdi:(191:Int)<(s[j].toNat:Int):=by omega
      have hdj:(128:Int)≤(s[j].toNat:Int):=by omega
      clear hd
      go_wp2
      go_ret
      exact ⟨dA HZ.out,rfl⟩
    ·rw [if_neg hd] at hq
     have HZ:=ajd hq
     have hdi:(s[j].toNat:Int)≤191:=by omega
     have hdj:(128:Int)≤(s[j].toNat:Int):=by omega
     clear hd hq hbb hr
     go_wp2
     go_round
     case rel=>exact ⟨j+1,64*q+s[j].toNat-128,by go_num,by go_num,by omega,by omega,by have:=HR.out;refine ⟨by omega,by omega,by omega,by omega,by omega⟩,HZ.out⟩
     case measure=>simp [intOf];omega
   ·obtain rfl:j=2:=by omega
    have hq:=HQ.out
    rw [Nat.sub_self] at hq
    unfold kM at hq
    have HZ:=ajd hq
    clear hq HQ
    go_wp2
    all_goals
     go_ret
     refine ⟨dA ?_,rfl⟩
     rw [←HZ.out]
     clear HZ HE
     go_light
     split<;>first|rfl|(exfalso;simp_all;done)|(exfalso;simp_all;omega)
theorem Zb (s:ByteArray) (w:World) (hs:s.size≤9223372036854775807) (h:0<s.size) (h0:224≤(s.get! 0).toNat) (h1:(s.get! 0).toNat<240):
 Calls Tryz.prog 98 #[.string s] w fun r w'=>r= .returned (.int .i64 (ch s 0:Nat))∧w'=w:=by
 have HL:=ajd (ag8 h h0 h1)
 have hb:=ajd (kN h)
 have c0:(224:Int)≤(s[0].toNat:Int):=by rw [kN h];omega
 have c1:(s[0].toNat:Int)<240:=by rw [kN h];omega
 have c2:(0:Int)<(s.size:Int):=by omega
 clear h0 h1
 by_cases hz:s.size<3
 ·have HE:Hid (((ch s 0:Nat):Int)=0):=by show _=_;rw [HL.out,if_pos hz]
  have hzi:(s.size:Int)<3:=by omega
  clear HL hz
  go_enter Tryz.func98,Tryz.ntmps98
  go_wp2
  go_ret
  exact ⟨dA HE.out.symm,rfl⟩
 ·have HE:Hid (kM s 3 2048 2 1 ((s[0].toNat:Int)-224)=((ch s 0:Nat):Int)):=by show _=_;rw [HL.out,if_neg hz,kN h]
  have hzi:(3:Int)≤(s.size:Int):=by omega
  clear HL hb
  go_enter Tryz.func98,Tryz.ntmps98
  go_wp2
  go_loop [5,7,8] (fun p i _=>∃ (j:Nat) (q:Int),p= .int .i64 q∧i= .int .i64 j∧1≤j∧j≤3∧Hid (0≤q∧(j≠1∨q<64)∧(j≠2∨q<4096)∧(j≠3∨q<262144)∧q<16777216)∧Hid (kM s 3 2048 (3-j) j q=((ch s 0:Nat):Int))) (fun _ i _=>3-(intOf i).toNat)
  case atStart=>exact ⟨1,_,rfl,rfl,Nat.le_refl _,by omega,⟨by omega,by omega,by omega,by omega,by omega⟩,HE.out⟩
  case round=>
   obtain ⟨j,q,rfl,rfl,hj1,hj,HR,HQ⟩:=hrel
   by_cases hlt:j<3
   ·have hjs:j<s.size:=by omega
    have hbb:=kN hjs
    have hq:=HQ.out
    rw [show 3-j=(3-(j+1))+1 by omega,CZ,←hbb] at hq
    have hr:=HR.out
    have hji:(j:Int)<(s.size:Int):=by omega
    have hj0:(0:Int)≤(j:Int):=by omega
    have hjn:(j:Int)<3:=by omega
    have d1:(s[j].toNat:Int)≤255:=by have:=s[j].toNat_lt;omega
    have q0:0≤q:=hr.1
    have q1:q≤262144:=by omega
    by_cases hd:s[j].toNat<128∨191<s[j].toNat
    ·rw [if_pos hd] at hq
     have HZ:=ajd hq
     clear hq hbb hr
     rcases hd with hd|hd
     ·have hdi:(s[j].toNat:Int)<128:=by omega
      clear hd
      go_wp2
      go_ret
      exact ⟨dA HZ.out,rfl⟩
     ·have hdi:(191:Int)<(s[j].toNat:Int):=by omega
      have hdj:(128:Int)≤(s[j].toNat:Int):=by omega
      clear hd
      go_wp2
      go_ret
      exact ⟨dA HZ.out,rfl⟩
    ·rw [if_neg hd] at hq
     have HZ:=ajd hq
     have hdi:(s[j].toNat:Int)≤191:=by omega
     have hdj:(128:Int)≤(s[j].toNat:Int):=by omega
     clear hd hq hbb hr
     go_wp2
     go_round
     case rel=>exact ⟨j+1,64*q+s[j].toNat-128,by go_num,by go_num,by omega,by omega,by have:=HR.out;refine ⟨by omega,by omega,by omega,by omega,by omega⟩,HZ.out⟩
     case measure=>simp [intOf];omega
   ·obtain rfl:j=3:=by omega
    have hq:=HQ.out
    rw [Nat.sub_self] at hq
    unfold kM at hq
    have HZ:=ajd hq
    clear hq HQ
    go_wp2
    all_goals
     go_ret
     refine ⟨dA ?_,rfl⟩
     rw [←HZ.out]
     clear HZ HE
     go_light
     split<;>first|rfl|(exfalso;simp_all;done)|(exfalso;simp_all;omega)
theorem Zc (s:ByteArray) (w:World) (hs:s.size≤9223372036854775807) (h:0<s.size) (h0:240≤(s.get! 0).toNat) (h1:(s.get! 0).toNat<245):
 Calls Tryz.prog 98 #[.string s] w fun r w'=>r= .returned (.int .i64 (ch s 0:Nat))∧w'=w:=by
 have HL:=ajd (ag9 h h0 h1)
 have hb:=ajd (kN h)
 have c0:(240:Int)≤(s[0].toNat:Int):=by rw [kN h];omega
 have c1:(s[0].toNat:Int)<245:=by rw [kN h];omega
 have c2:(0:Int)<(s.size:Int):=by omega
 clear h0 h1
 by_cases hz:s.size<4
 ·have HE:Hid (((ch s 0:Nat):Int)=0):=by show _=_;rw [HL.out,if_pos hz]
  have hzi:(s.size:Int)<4:=by omega
  clear HL hz
  go_enter Tryz.func98,Tryz.ntmps98
  go_wp2
  go_ret
  exact ⟨dA HE.out.symm,rfl⟩
 ·have HE:Hid (kM s 4 65536 3 1 ((s[0].toNat:Int)-240)=((ch s 0:Nat):Int)):=by show _=_;rw [HL.out,if_neg hz,kN h]
  have hzi:(4:Int)≤(s.size:Int):=by omega
  clear HL hb
  go_enter Tryz.func98,Tryz.ntmps98
  go_wp2
  go_loop [5,7,8] (fun p i _=>∃ (j:Nat) (q:Int),p= .int .i64 q∧i= .int .i64 j∧1≤j∧j≤4∧Hid (0≤q∧(j≠1∨q<64)∧(j≠2∨q<4096)∧(j≠3∨q<262144)∧q<16777216)∧Hid (kM s 4 65536 (4-j) j q=((ch s 0:Nat):Int))) (fun _ i _=>4-(intOf i).toNat)
  case atStart=>exact ⟨1,_,rfl,rfl,Nat.le_refl _,by omega,⟨by omega,by omega,by omega,by omega,by omega⟩,HE.out⟩
  case round=>
   obtain ⟨j,q,rfl,rfl,hj1,hj,HR,HQ⟩:=hrel
   by_cases hlt:j<4
   ·have hjs:j<s.size:=by omega
    have hbb:=kN hjs
    have hq:=HQ.out
    rw [show 4-j=(4-(j+1))+1 by omega,CZ,←hbb] at hq
    have hr:=HR.out
    have hji:(j:Int)<(s.size:Int):=by omega
    have hj0:(0:Int)≤(j:Int):=by omega
    have hjn:(j:Int)<4:=by omega
    have d1:(s[j].toNat:Int)≤255:=by have:=s[j].toNat_lt;omega
    have q0:0≤q:=hr.1
    have q1:q≤262144:=by omega
    by_cases hd:s[j].toNat<128∨191<s[j].toNat
    ·rw [if_pos hd] at hq
     have HZ:=ajd hq
     clear hq hbb hr
     rcases hd with hd|hd
     ·have hdi:(s[j].toNat:Int)<128:=by omega
      clear hd
      go_wp2
      go_ret
      exact ⟨dA HZ.out,rfl⟩
     ·have hdi:(191:Int)<(s[j].toNat:Int):=by omega
      have hdj:(128:Int)≤(s[j].toNat:Int):=by omega
      clear hd
      go_wp2
      go_ret
      exact ⟨dA HZ.out,rfl⟩
    ·rw [if_neg hd] at hq
     have HZ:=ajd hq
     have hdi:(s[j].toNat:Int)≤191:=by omega
     have hdj:(128:Int)≤(s[j].toNat:Int):=by omega
     clear hd hq hbb hr
     go_wp2
     go_round
     case rel=>exact ⟨j+1,64*q+s[j].toNat-128,by go_num,by go_num,by omega,by omega,by have:=HR.out;refine ⟨by omega,by omega,by omega,by omega,by omega⟩,HZ.out⟩
     case measure=>simp [intOf];omega
   ·obtain rfl:j=4:=by omega
    have hq:=HQ.out
    rw [Nat.sub_self] at hq
    unfold kM at hq
    have HZ:=ajd hq
    clear hq HQ
    go_wp2
    all_goals
     go_ret
     refine ⟨dA ?_,rfl⟩
     rw [←HZ.out]
     clear HZ HE
     go_light
     split<;>first|rfl|(exfalso;simp_all;done)|(exfalso;simp_all;omega)
theorem NA (s:ByteArray) (w:World) (hs:s.size≤9223372036854775807) (h:0<s.size):
 Calls Tryz.prog 98 #[.string s] w fun r w'=>r= .returned (.int .i64 (ch s 0:Nat))∧w'=w:=by
 by_cases a:(s.get! 0).toNat<128
 ·have HE:=ajd (ag5 h a)
  have c1:(s[0].toNat:Int)<128:=by rw [kN h];omega
  have c2:(0:Int)<(s.size:Int):=by omega
  clear a
  go_enter Tryz.func98,Tryz.ntmps98
  go_wp2
  go_ret
  exact ⟨by rw [HE.out];rfl,rfl⟩
 by_cases b:(s.get! 0).toNat<194∨245≤(s.get! 0).toNat
 ·have HE:=ajd (aha (by omega) b)
  have c1:(128:Int)≤(s[0].toNat:Int):=by rw [kN h];omega
  have c2:(0:Int)<(s.size:Int):=by omega
  have c4:(s[0].toNat:Int)≤255:=by have:=s[0].toNat_lt;omega
  have c3:(s[0].toNat:Int)<194∨(245:Int)≤(s[0].toNat:Int):=by rw [kN h];omega
  clear a b
  rcases c3 with c3|c3
  all_goals
   go_enter Tryz.func98,Tryz.ntmps98
   go_wp2
   go_ret
   exact ⟨by rw [HE.out];rfl,rfl⟩
 by_cases c:(s.get! 0).toNat<224
 ·exact Za s w hs h (by omega) c
 by_cases d:(s.get! 0).toNat<240
 ·exact Zb s w hs h (by omega) d
 exact Zc s w hs h (by omega) (by omega)
theorem zA {a b:Bool} (h:a=b):Ending.returned (.bool a)= .returned (.bool b):=by rw [h]
theorem aba (s:ByteArray) (k:Nat) (h:SH s=k):decide (SH s<0)=false:=by rw [h];simp
theorem abb (s:ByteArray) (h:SH s= -1):decide (SH s<0)=true:=by rw [h];rfl
theorem abd (s:ByteArray) (k:Nat) (h:VG s=k):decide (VG s<0)=false:=by rw [h];simp
theorem abe (s:ByteArray) (h:VG s= -1):decide (VG s<0)=true:=by rw [h];rfl
theorem Hz (s:ByteArray) (w:World) (hs:s.size≤9223372036854775807):
 Calls Tryz.prog 78 #[.string s] w fun r w'=>r= .returned (.bool (decide (SH s<0)))∧w'=w:=by
 go_enter Tryz.func78,Tryz.ntmps78
 go_wp2
 go_loop [3] (fun i=>∃ (k:Nat),i= .int .i64 k∧k≤s.size∧Hid (kC s k=SH s)) (fun i=>s.size-(intOf i).toNat)
 case atStart=>exact ⟨0,rfl,Nat.zero_le _,rfl⟩
 case round=>
  obtain ⟨k,rfl,hk,HQ⟩:=hrel
  by_cases hlt:k<s.size
  ·have hz:(s.extract k s.size).size=s.size-k:=by simp
   have HL:=ajd (NA (s.extract k s.size) w (by omega) (by omega))
   rw [Ow s k (by omega)] at HL
   have hfit:=Wj (s:=s) (k:=k)
   have hk0:(0:Int)≤(k:Int):=by omega
   have hk1:(k:Int)<(s.size:Int):=by omega
   clear hz
   by_cases hc:ch s k=0
   ·have HE:=ajd (aba s k (HQ.out.symm.trans (Q5 hlt hc)))
    rw [hc] at HL
    clear hfit hc
    go_wp2_with (go_at_call 98;refine HL.out.mono ?_;rintro r w2 ⟨rfl,rfl⟩)
    go_ret
    exact ⟨zA HE.out.symm,rfl⟩
   ·have HE:=ajd ((Kr hlt hc).symm.trans HQ.out)
    have hfit:=hfit hc
    obtain ⟨c,hcc⟩:∃ c,ch s k=c:=⟨_,rfl⟩
    rw [hcc] at HL HE hfit hc
    have hne:((c:Int)==0)=false:=by simp;omega
    clear hcc
    go_wp2_with (go_at_call 98;refine HL.out.mono ?_;rintro r w2 ⟨rfl,rfl⟩)
    go_round
    case rel=>exact ⟨k+c,by go_num,by omega,HE.out⟩
    case measure=>simp [intOf];omega
  ·obtain rfl:k=s.size:=by omega
   have HE:=ajd (abb s (HQ.out.symm.trans (Q4 hlt)))
   go_wp2
   go_ret
   exact ⟨zA HE.out.symm,rfl⟩
theorem QG (s:ByteArray) (w:World) (hs:s.size≤9223372036854775807):
 Calls Tryz.prog 191 #[.string s] w fun r w'=>r= .returned (.bool (decide (VG s<0)))∧w'=w:=by
 go_enter Tryz.func191,Tryz.ntmps191
 go_wp2
 go_loop [3] (fun i=>∃ (k:Nat),i= .int .i64 k∧k≤s.size∧Hid (jP s k=VG s)) (fun i=>s.size-(intOf i).toNat)
 case atStart=>exact ⟨0,rfl,Nat.zero_le _,rfl⟩
 case round=>
  obtain ⟨k,rfl,hk,HQ⟩:=hrel
  by_cases hlt:k<s.size
  ·by_cases hc:128≤s[k].toNat
   ·have HE:=ajd (abd s k (HQ.out.symm.trans (Q7 hlt hc)))
    have hci:(128:Int)≤(s[k].toNat:Int):=by omega
    clear hc
    go_wp2
    go_ret
    exact ⟨zA HE.out.symm,rfl⟩
   ·have HE:Hid (jP s (k+1)=VG s):=(Kt hlt hc).symm.trans HQ.out
    have hci:(s[k].toNat:Int)<128:=by omega
    clear hc
    go_wp2
    go_round
    case rel=>exact ⟨k+1,by go_num,by omega,HE.out⟩
    case measure=>simp [intOf];omega
  ·obtain rfl:k=s.size:=by omega
   have HE:=ajd (abe s (HQ.out.symm.trans (Q6 (Nat.le_refl _))))
   go_wp2
   go_ret
   exact ⟨zA HE.out.symm,rfl⟩
theorem JP (k m:Int) (s:ByteArray) (lv:Value) (e:Int) (w:World) (hs:s.size≤9223372036854775807):
 Calls Tryz.prog 172 #[.agg #[.int .i64 k,.int .u64 m,.string s,lv,.int .i64 e]] w fun r w'=>r= .returned (.bool (rH k s))∧Below w.heap.size w w':=by
 obtain ⟨W1,hW1⟩:∃ W1,w.alloc (.cells #[.int .i64 k,.int .u64 m,.string s,lv,.int .i64 e] 25)=W1:=⟨_,rfl⟩
 have HB:Hid (Below w.heap.size w W1):=by rw [←hW1];exact (Below.refl _ _).alloc (Nat.le_refl _) _
 have HU:=ajd (Hz s W1 hs)
 have HA:=ajd (QG s W1 hs)
 rw [←hW1] at HU HA HB
 clear hW1
 go_enter Tryz.func172,Tryz.ntmps172
 go_wp2_with (first
  |(go_at_call 78;refine HU.out.mono ?_;rintro r w2 ⟨rfl,rfl⟩)
  |(go_at_call 191;refine HA.out.mono ?_;rintro r w2 ⟨rfl,rfl⟩))
 all_goals
  go_ret
  refine ⟨zA ?_,HB.out⟩
  clear HU HA HB
  go_light
  simp_all [rH]
 all_goals first
  |omega
  |(rw [Bool.eq_iff_iff];simp;omega)
end Go.Proofs.YtmldhjoolebjoaaGreatDoor.Va
namespace Go.Proofs.YtmldhjoolebjoaaGreatDoor.Va
open Go Go.RowKit Nu
attribute [local go_sem ↓] Go.wp_at_zero Go.wp_at_succ
theorem abf {N B:Nat} (l:List VT) (lv:Value) (w:World) (hl:bR B w N lv l) (hB:B≤w.heap.size):
 Calls Tryz.prog 173 #[lv] w fun r w'=>r= .returned (.bool (kQ l))∧Below w.heap.size w w':=by
 have HL:=ajd hl
 obtain ⟨p,c,rfl⟩:=hl.slice
 have hlen:l.length≤9223372036854775807:=hl.len
 clear hl
 obtain ⟨R,hR⟩:∃ R,kQ l=R:=⟨_,rfl⟩
 have HR:=ajd hR
 rw [hR]
 clear hR
 obtain ⟨n,hn⟩:∃ n,l.length=n:=⟨_,rfl⟩
 have Hn:=ajd hn
 rw [hn] at hlen HL ⊢
 clear hn
 by_cases hodd:n%2=0
 ·by_cases Zd:n≤2048
  ·have e1:(n:Int)%2=0:=by omega
   have e2:(n:Int)/2≤1024:=by omega
   have Ho:=ajd hodd
   clear hodd
   go_enter Tryz.func173,Tryz.ntmps173
   go_wp2
   clear e1 e2
   go_loopw [3] (fun i wr=>∃ (a:Nat),i= .int .i64 ((2*a:Nat):Int)∧2*a≤n∧Hid (∀ (p q:Nat) (x y:VT),p<q→q<a→l[2*q]? =some x→l[2*p]? =some y→mM x y=false)∧Hid (Below w.heap.size w wr)) (fun i _=>n-(intOf i).toNat)
   case atStart=>exact ⟨0,rfl,Nat.zero_le _,fun p q x y _ h=>by omega,Below.refl _ _⟩
   case round=>
    obtain ⟨a,rfl,ha,HQ,HB⟩:=hrel
    by_cases hlt:2*a<n
    ·have hlt2:2*a+2≤n:=by have:=Ho.out;omega
     have hmn:n≤2048:=Zd
     cases N with
     |zero=>exact HL.out.elim
     |succ N=>
     obtain ⟨x,hx⟩:∃ x,l[2*a]? =some x:=⟨_,List.getElem?_eq_getElem (by rw [Hn.out];exact hlt)⟩
     rcases HL.out with ⟨h0,_⟩|⟨b,off,c',hp,jy,_,hel⟩
     ·exfalso;have:=Hn.out;rw [h0] at this;simp at this;omega
     rw [Hn.out] at hp
     cases hp
     obtain ⟨xf,xv,Nc,xl⟩:=hel (2*a) x hx
     have HX:=ajd hx
     have HAT:=ajd Nc
     have U8:=ajd xl
     have HEL:=ajd hel
     obtain ⟨i,hi⟩:∃ i,2*a=i:=⟨_,rfl⟩
     have Hi:=ajd hi
     rw [hi] at hlt hlt2 HX HAT ⊢
     have hi0:(0:Int)≤(i:Int):=by omega
     have hi1:(i:Int)<(n:Int):=by omega
     clear hx hel Nc xl hi
     go_wp2
     go_loopw [4] (fun kv wq=>∃ (q:Nat),kv= .int .i64 ((2*q:Nat):Int)∧q≤a∧Hid (∀ (p:Nat) (y:VT),p<q→l[2*p]? =some y→mM x y=false)∧Hid (Below w.heap.size w wq)) (fun kv _=>i-(intOf kv).toNat)
     case atStart=>exact ⟨0,rfl,Nat.zero_le _,fun p y h=>by omega,HB.out⟩
     case round=>
      obtain ⟨q,rfl,hq,HP,HB2⟩:=hrel
      by_cases aim:q<a
      ·obtain ⟨y,hy⟩:∃ y,l[2*q]? =some y:=⟨_,List.getElem?_eq_getElem (by have:=Hi.out;rw [Hn.out];omega)⟩
       obtain ⟨yf,yv,yat,yl⟩:=HEL.out (2*q) y hy
       have BQ:Below B w wr:=HB2.out.mono hB
       obtain ⟨e0,e1,e2,e3,e4⟩:=HAT.out.below BQ jy
       obtain ⟨f0,f1,f2,f3,f4⟩:=yat.below BQ jy
       have hz:=HB2.out.size
       have hEq:=ajd (Hf N B x.kind x.num x.text x.elem x.list xv y.kind y.num y.text y.elem y.list yv wr.drew (U8.out.below (BQ.drew)) (yl.below BQ.drew) (by show B≤wr.heap.size;omega))
       rw [VT.eta,VT.eta] at hEq
       have HY:=ajd hy
       obtain ⟨X,hX⟩:∃ X,mM x y=X:=⟨_,rfl⟩
       rw [hX] at hEq
       have EX:=ajd hX
       obtain ⟨j,hj⟩:∃ j,2*q=j:=⟨_,rfl⟩
       have Hj:=ajd hj
       have hji:j+2≤i:=by have:=Hi.out;omega
       rw [hj] at f0 f1 f2 f3 f4 HY ⊢
       have hj0:(0:Int)≤(j:Int):=by omega
       have hj1:(j:Int)<(i:Int):=by omega
       have hj2:(j:Int)<(n:Int):=by omega
       have hb0:b<wr.heap.size:=by omega
       have gu:Hid (∀ w',Below wr.heap.size wr w'→(Below wr.heap.size wr w'∧w'.cell? ⟨b,off+i*5,none⟩=some (.int .i64 x.kind)∧w'.cell? ⟨b,off+i*5+1,none⟩=some (.int .u64 x.num)∧w'.cell? ⟨b,off+i*5+2,none⟩=some (.string x.text)∧w'.cell? ⟨b,off+i*5+3,none⟩=some xv∧w'.cell? ⟨b,off+i*5+4,none⟩=some (.int .i64 x.elem)∧
        w'.cell? ⟨b,off+j*5,none⟩=some (.int .i64 y.kind)∧w'.cell? ⟨b,off+j*5+1,none⟩=some (.int .u64 y.num)∧w'.cell? ⟨b,off+j*5+2,none⟩=some (.string y.text)∧w'.cell? ⟨b,off+j*5+3,none⟩=some yv∧w'.cell? ⟨b,off+j*5+4,none⟩=some (.int .i64 y.elem))):=fun w' h=>
        have k:∀ o,w'.cell? ⟨b,o,none⟩=wr.cell? ⟨b,o,none⟩:=fun o=>h.cell (p:=⟨b,o,none⟩) hb0
        ⟨h,(k _).trans e0,(k _).trans e1,(k _).trans e2,(k _).trans e3,(k _).trans e4,(k _).trans f0,(k _).trans f1,(k _).trans f2,(k _).trans f3,(k _).trans f4⟩
       clear yat yl hy hX hj
       go_wp2
       go_region_held3 (fun w'=>Below wr.heap.size wr w'∧w'.cell? ⟨b,off+i*5,none⟩=some (.int .i64 x.kind)∧w'.cell? ⟨b,off+i*5+1,none⟩=some (.int .u64 x.num)∧w'.cell? ⟨b,off+i*5+2,none⟩=some (.string x.text)∧w'.cell? ⟨b,off+i*5+3,none⟩=some xv∧w'.cell? ⟨b,off+i*5+4,none⟩=some (.int .i64 x.elem)∧
        w'.cell? ⟨b,off+j*5,none⟩=some (.int .i64 y.kind)∧w'.cell? ⟨b,off+j*5+1,none⟩=some (.int .u64 y.num)∧w'.cell? ⟨b,off+j*5+2,none⟩=some (.string y.text)∧w'.cell? ⟨b,off+j*5+3,none⟩=some yv∧w'.cell? ⟨b,off+j*5+4,none⟩=some (.int .i64 y.elem))
        (first
          |exact gu.out _ (Below.refl _ _)
          |exact gu.out _ (Below.refl _ _).drew
          |exact gu.out _ (((Below.refl _ _).drew).trans hb2)
          |assumption)
        ((go_at_call 11;refine hEq.out.mono ?_;rintro r w2 ⟨hr,hb2⟩;subst hr;replace hb2:Below wr.heap.size wr.drew w2:=hb2))
       have hb3:=ajd (HB2.out.trans (((Below.refl _ _).drew.trans hb2).mono hz))
       clear gu e0 e1 e2 e3 e4 f0 f1 f2 f3 f4 hEq
       cases X with
       |false=>
        have HN:Hid (∀ (p:Nat) (y:VT),p<q+1→l[2*p]? =some y→mM x y=false):=fun p' y' hp' hy'=>by
         rcases Nat.lt_or_ge p' q with h|h
         ·exact HP.out p' y' h hy'
         ·obtain rfl:p'=q:=by omega
          rw [Hj.out,HY.out] at hy'
          cases hy'
          exact EX.out
        go_wp2
        go_roundw
        case rel=>exact ⟨q+1,by rw [show ((2*(q+1):Nat):Int)=(j:Int)+2 by have:=Hj.out;omega],by omega,HN.out,hb3.out⟩
        case measure=>simp [intOf];omega
       |true=>
        have HE:Hid (R=false):=HR.out.symm.trans (ZY (by rw [Hn.out];exact Ho.out) aim (by rw [Hi.out];exact HX.out) (by rw [Hj.out];exact HY.out) EX.out)
        go_wp2
        go_ret
        exact ⟨zA HE.out.symm,hb3.out⟩
      ·obtain rfl:q=a:=by omega
       have HN:Hid (∀ (p q':Nat) (x y:VT),p<q'→q'<q+1→l[2*q']? =some x→l[2*p]? =some y→mM x y=false):=fun p' q' x' y' h1 h2 hx' hy'=>by
        rcases Nat.lt_or_ge q' q with h|h
        ·exact HQ.out p' q' x' y' h1 h hx' hy'
        ·obtain rfl:q'=q:=by omega
         rw [Hi.out,HX.out] at hx'
         cases hx'
         exact HP.out p' y' h1 hy'
       rw [Hi.out]
       go_wp2
       go_roundw
       case rel=>exact ⟨q+1,by rw [show ((2*(q+1):Nat):Int)=(i:Int)+2 by have:=Hi.out;omega],by have:=Hi.out;omega,HN.out,HB2.out⟩
       case measure=>simp [intOf];omega
    ·have han:2*a=n:=by omega
     have HE:Hid (R=true):=HR.out.symm.trans (Wv (by rw [Hn.out];exact Ho.out) (by rw [Hn.out];exact Zd) fun p q x y h1 hx hy=>HQ.out p q x y h1 (by have:=(List.getElem?_eq_some_iff.1 hx).1;rw [Hn.out] at this;omega) hx hy)
     rw [han]
     go_wp2
     go_ret
     exact ⟨zA HE.out.symm,HB.out⟩
  ·have HE:Hid (R=false):=HR.out.symm.trans (Wu (by have:=Hn.out;omega))
   have e1:(n:Int)%2=0:=by omega
   have e2:¬((n:Int)/2≤1024):=by omega
   clear Zd hodd
   go_enter Tryz.func173,Tryz.ntmps173
   go_wp2
   go_ret
   exact ⟨zA HE.out.symm,Below.refl _ _⟩
 ·have HE:Hid (R=false):=HR.out.symm.trans (ZX (by rw [Hn.out];exact hodd))
  have e1:¬((n:Int)%2=0):=by omega
  clear hodd
  go_enter Tryz.func173,Tryz.ntmps173
  go_wp2
  go_ret
  exact ⟨zA HE.out.symm,Below.refl _ _⟩
end Go.Proofs.YtmldhjoolebjoaaGreatDoor.Va
