/-
  The texts R4 R1 R2 R5 R6 R7 R8 of this claim, one behind the other.
-/
import Derived.Test.YtfoiaiblggapeaaGreatDoorZPUB6
import Derived.Test.YtfoiaiblggapeaaGreatDoorZPUB2
import Derived.Test.YtfoiaiblggapeaaGreatDoorZPUB0
import Derived.Deep.RegionHeld3
import Derived.Deep.DrawnRows
import Derived.Test.YtfoiaiblggapeaaGreatDoorZPUA1
set_option maxHeartbeats 40000000
set_option maxRecDepth 100000
namespace Go.Proofs.YtfoiaiblggapeaaGreatDoor.Va
open Go Go.RowKit Nu Uc
theorem rextra_raw (k m:Int) (s:ByteArray) (p:Option Addr) (n c:Nat) (e:Int) (w:World) (hn:n≤9223372036854775807) (h0:0≤k) (h24:k≤24):
 Calls Tryz.prog 126 #[.agg #[.int .i64 k,.int .u64 m,.string s,.slice p n c,.int .i64 e]] w fun r w'=>r= .returned (.bool (extraT k m s e n))∧Below w.heap.size w w':=by
 have hbox:Hid (∀ o:Obj,Below w.heap.size w (w.alloc o)):=fun o=>(Below.refl _ _).alloc (Nat.le_refl _) _
 obtain ⟨R,hR⟩:∃ R,extraT k m s e n=R:=⟨_,rfl⟩
 rw [hR]
 by_cases hk:k=0
 ·subst hk
  have HR:Hid (R=(decide (m≠0)||decide (s.size≠0)||decide (0<n)||decide (e≠0))):=by
   show R=_
   rw [←hR]
   have x1:hasT 0=false:=by decide
   have x2:hasP 0=false:=by decide
   have x3:hasN 0=false:=by decide
   unfold extraT
   rw [x1,x2,x3]
   by_cases y1:m=0<;>by_cases y2:s.size=0<;>by_cases y3:n=0<;>by_cases y4:e=0<;>simp [y1,y2,y3,y4]<;>omega
  clear hR
  go_enter Tryz.func126,Tryz.ntmps126
  go_wp2
  all_goals
   go_ret
   refine ⟨ret_bool ?_,hbox.out _⟩
   rw [HR.out]
   clear HR hbox
   first
    |(simp_all;done)
    |(simp_all [toList_nil];done)
    |(by_cases y2:e=0<;>by_cases y1:0<n<;>simp_all [toList_nil]<;>omega)
    |(by_cases y2:e=0<;>by_cases y1:0<n<;>simp_all [toList_nil])
 have nk0:=hk
 clear hk
 by_cases hk:k=14
 ·subst hk
  have HR:Hid (R=(decide (m≠0)||decide (0<n)||decide (e≠0))):=by
   show R=_
   rw [←hR]
   have x1:hasT 14=true:=by decide
   have x2:hasP 14=false:=by decide
   have x3:hasN 14=false:=by decide
   unfold extraT
   rw [x1,x2,x3]
   by_cases y1:m=0<;>by_cases y2:s.size=0<;>by_cases y3:n=0<;>by_cases y4:e=0<;>simp [y1,y2,y3,y4]<;>omega
  clear hR
  go_enter Tryz.func126,Tryz.ntmps126
  go_wp2
  all_goals
   go_ret
   refine ⟨ret_bool ?_,hbox.out _⟩
   rw [HR.out]
   clear HR hbox
   first
    |(simp_all;done)
    |(simp_all;done)
    |(by_cases y2:e=0<;>by_cases y1:0<n<;>simp_all<;>omega)
    |(by_cases y2:e=0<;>by_cases y1:0<n<;>simp_all [toList_nil])
 have nk14:=hk
 clear hk
 by_cases hk:k=23
 ·subst hk
  have HR:Hid (R=(decide (m≠0)||decide (s.size≠0))):=by
   show R=_
   rw [←hR]
   have x1:hasT 23=false:=by decide
   have x2:hasP 23=true:=by decide
   have x3:hasN 23=false:=by decide
   unfold extraT
   rw [x1,x2,x3]
   by_cases y1:m=0<;>by_cases y2:s.size=0<;>by_cases y3:n=0<;>by_cases y4:e=0<;>simp [y1,y2,y3,y4]<;>omega
  clear hR
  go_enter Tryz.func126,Tryz.ntmps126
  go_wp2
  all_goals
   go_ret
   refine ⟨ret_bool ?_,hbox.out _⟩
   rw [HR.out]
   clear HR hbox
   first
    |(simp_all;done)
    |(simp_all [toList_nil];done)
    |(by_cases y2:e=0<;>by_cases y1:0<n<;>simp_all [toList_nil]<;>omega)
    |(by_cases y2:e=0<;>by_cases y1:0<n<;>simp_all [toList_nil])
 by_cases hg:k≤16
 ·have HR:Hid (R=(decide (s.size≠0)||decide (0<n)||decide (e≠0))):=by
   show R=_
   rw [←hR]
   have x1:hasT k=false:=by simp only [hasT,Bool.or_eq_false_iff,beq_eq_false_iff_ne,ne_eq];omega
   have x2:hasP k=false:=by simp only [hasP,Bool.or_eq_false_iff,beq_eq_false_iff_ne,ne_eq];omega
   have x3:hasN k=true:=by rw [hasN,x1,x2];simp<;>omega
   unfold extraT
   rw [x1,x2,x3]
   by_cases y1:m=0<;>by_cases y2:s.size=0<;>by_cases y3:n=0<;>by_cases y4:e=0<;>simp [y1,y2,y3,y4]<;>omega
  clear hR
  have f0:1≤k:=by omega
  have f1:¬k=14:=by omega
  have f2:¬17≤k:=by omega
  have f3:¬21≤k:=by omega
  have f4:¬k=23:=by omega
  go_enter Tryz.func126,Tryz.ntmps126
  go_wp2
  all_goals
   go_ret
   refine ⟨ret_bool ?_,hbox.out _⟩
   rw [HR.out]
   clear HR hbox
   first
    |(simp_all;done)
    |(simp_all [toList_nil];done)
    |(by_cases y2:e=0<;>by_cases y1:0<n<;>simp_all [toList_nil]<;>omega)
    |(by_cases y2:e=0<;>by_cases y1:0<n<;>simp_all [toList_nil])
 by_cases hg2:k≤20
 ·have HR:Hid (R=(decide (m≠0)||decide (0<n)||decide (e≠0))):=by
   show R=_
   rw [←hR]
   have x1:hasT k=true:=by simp only [hasT,Bool.or_eq_true,beq_iff_eq];omega
   have x2:hasP k=false:=by simp only [hasP,Bool.or_eq_false_iff,beq_eq_false_iff_ne,ne_eq];omega
   have x3:hasN k=false:=by rw [hasN,x1,x2];simp<;>omega
   unfold extraT
   rw [x1,x2,x3]
   by_cases y1:m=0<;>by_cases y2:s.size=0<;>by_cases y3:n=0<;>by_cases y4:e=0<;>simp [y1,y2,y3,y4]<;>omega
  clear hR
  have f0:1≤k:=by omega
  have f1:¬k≤16:=by omega
  have f2:¬k=14:=by omega
  have f3:17≤k:=by omega
  have f4:¬21≤k:=by omega
  have f5:¬k=23:=by omega
  go_enter Tryz.func126,Tryz.ntmps126
  go_wp2
  all_goals
   go_ret
   refine ⟨ret_bool ?_,hbox.out _⟩
   rw [HR.out]
   clear HR hbox
   first
    |(simp_all;done)
    |(simp_all;done)
    |(by_cases y2:e=0<;>by_cases y1:0<n<;>simp_all<;>omega)
    |(by_cases y2:e=0<;>by_cases y1:0<n<;>simp_all [toList_nil])
 have HR:Hid (R=(decide (m≠0)||decide (s.size≠0)||decide (e≠0))):=by
  show R=_
  rw [←hR]
  have x1:hasT k=false:=by simp only [hasT,Bool.or_eq_false_iff,beq_eq_false_iff_ne,ne_eq];omega
  have x2:hasP k=true:=by simp only [hasP,Bool.or_eq_true,beq_iff_eq];omega
  have x3:hasN k=false:=by rw [hasN,x1,x2];simp<;>omega
  unfold extraT
  rw [x1,x2,x3]
  by_cases y1:m=0<;>by_cases y2:s.size=0<;>by_cases y3:n=0<;>by_cases y4:e=0<;>simp [y1,y2,y3,y4]<;>omega
 clear hR
 have f0:1≤k:=by omega
 have f1:¬k≤16:=by omega
 have f2:¬k=14:=by omega
 have f3:17≤k:=by omega
 have f4:¬k≤20:=by omega
 have f5:21≤k:=by omega
 have f6:¬k=23:=by omega
 go_enter Tryz.func126,Tryz.ntmps126
 go_wp2
 all_goals
  go_ret
  refine ⟨ret_bool ?_,hbox.out _⟩
  rw [HR.out]
  clear HR hbox
  first
   |(simp_all;done)
   |(simp_all [toList_nil];done)
   |(by_cases y2:e=0<;>by_cases y1:0<n<;>simp_all [toList_nil]<;>omega)
   |(by_cases y2:e=0<;>by_cases y1:0<n<;>simp_all [toList_nil])
end Go.Proofs.YtfoiaiblggapeaaGreatDoor.Va
namespace Go.Proofs.YtfoiaiblggapeaaGreatDoor.Va
open Go Go.RowKit Nu
attribute [-go_sem] Go.Instr.loadAt Go.Instr.storeAt
def RdS (N:Nat):Prop:=∀ (B:Nat) (t:VT) (lv:Value) (w:World),LAt B w N lv t.list→B≤w.heap.size→nodes t≤900000000→
    Calls Tryz.prog 43 #[t.agg lv] w fun r w'=>r= .returned (.int .i64 (depthT t:Nat))∧Below w.heap.size w w'
theorem rdepths:∀ N,RdS N:=by
 intro N
 induction N with
 |zero=>intro B t lv w h;exact h.elim
 |succ N ih=>
  intro B t lv w hl hB hn
  have HS:=Lib.hid ih
  have HL:=Lib.hid hl
  obtain ⟨p,c,rfl⟩:=hl.slice
  have hlen:t.list.length≤9223372036854775807:=hl.len
  obtain ⟨W1,hW1⟩:∃ W1,w.alloc (.cells #[.int .i64 t.kind,.int .u64 t.num,.string t.text,.slice p t.list.length c,.int .i64 t.elem] 42)=W1:=⟨_,rfl⟩
  obtain ⟨b1,b2,b3⟩:=one_block hW1
  have HK:Hid (∀ v,Below (w.heap.size+1) W1 v→(Instr.loadAt 31 (.pointer (some ⟨w.heap.size,3,none⟩))).run Tryz.prog v= .ok (.slice p t.list.length c) v∧Below w.heap.size w v):=fun v h=>
   ⟨wload_slice ((h.cell (p:=⟨w.heap.size,3,none⟩) (Nat.lt_succ_self _)).trans (wcell_of (Cells.of_heap (cs:=t.cells (.slice p t.list.length c)) b1) 3 _ rfl)),b3.trans (h.mono (Nat.le_succ _))⟩
  have hnd:=Lib.hid (nodes_eq t)
  have hdd:=Lib.hid (depthT_eq t)
  obtain ⟨D,hD⟩:∃ D,depthT t=D:=⟨_,rfl⟩
  have HD:=Lib.hid hD
  rw [hD]
  obtain ⟨m,hm⟩:∃ m,t.list.length=m:=⟨_,rfl⟩
  have Hm:=Lib.hid hm
  rw [hm] at hlen HL HK
  clear hl ih b1 b3 hD
  go_enter Tryz.func43,Tryz.ntmps43
  rw [hm] at hW1 ⊢
  clear hm
  go_wp2
  clear hW1
  go_loopw [3,4] (fun v i wr=>∃ (j:Nat),v= .int .i64 (depthTs (t.list.take j):Nat)∧i= .int .i64 j∧j≤m∧Hid (Below (w.heap.size+1) W1 wr)) (fun _ i _=>m-(intOf i).toNat)
  case atStart=>exact ⟨0,by simp [depthTs],rfl,Nat.zero_le _,Below.refl _ _⟩
  case round=>
   obtain ⟨j,rfl,rfl,hj,hb⟩:=hrel
   obtain ⟨l1,hbw⟩:=HK.out wr hb.out
   have BW:=Lib.hid hbw
   by_cases hlt:j<m
   ·rcases HL.out with ⟨h0,_⟩|⟨b,off,c',hp,hbB,_,hel⟩
    ·exfalso;have:=Hm.out;rw [h0] at this;simp at this;omega
    rw [Hm.out] at hp
    cases hp
    obtain ⟨u,hu⟩:∃ u,t.list[j]? =some u:=⟨_,List.getElem?_eq_getElem (by rw [Hm.out];exact hlt)⟩
    obtain ⟨uf,ulv,hat,hul⟩:=hel j u hu
    have hbB2:Below B w wr:=hbw.mono hB
    have l3:=wload_value (at5_cells (hat.below hbB2 hbB))
    have hi0:(0:Int)≤(j:Int):=by omega
    have hi1:(j:Int)<(m:Int):=by omega
    have hna:=nodesL_at hu
    have HC:=Lib.hid (HS.out B u ulv wr (hul.below hbB2) (by have:=hbw.size;omega) (by have:=hnd.out;omega))
    have hsn:depthTs (t.list.take (j+1))=max (depthTs (t.list.take j)) (depthT u):=by rw [List.take_add_one,hu,show (some u).toList=[u] from rfl,depthTs_snoc]
    have HSN:=Lib.hid hsn
    have hzw:=Lib.hid hb.out.size
    clear hel hat hul uf hu hbB2 hna hsn hbw
    generalize depthTs (t.list.take j)=d0 at*
    go_wp2_with (go_at_call 43;refine HC.out.mono ?_;rintro r w2 ⟨rfl,hb2⟩)
    all_goals
     go_roundw
     case rel=>exact ⟨j+1,by rw [HSN.out];congr 1;omega,by go_num,by omega,hb.out.trans (hb2.mono (by have:=hzw.out;omega))⟩
     case measure=>simp [intOf];omega
   ·obtain rfl:j=m:=by omega
    have hfull:t.list.take j=t.list:=List.take_of_length_le (Nat.le_of_eq Hm.out)
    rw [hfull]
    have hle:=depthTs_le t.list
    have hw1:IntKind.i64.wrap ((depthTs t.list:Int)+1)=(depthTs t.list:Int)+1:=by rw [IntKind.wrap_i64];have:=hnd.out;omega
    go_wp2
    go_ret
    exact ⟨by rw [←HD.out,hdd.out];rfl,BW.out⟩
theorem wret_int {k:IntKind} {a b:Int} (h:a=b):Ending.returned (.int k a)= .returned (.int k b):=by rw [h]
def OwnS:Prop:=∀ (N B:Nat) (t:VT) (lv:Value) (d:Nat) (w:World),t.Fine→LAt B w N lv t.list→B≤w.heap.size→d≤1000000000→
    Calls Tryz.prog 114 #[t.agg lv,.int .i64 d] w fun r w'=>r= .returned (.int .i64 (aloneT t d))∧Below w.heap.size w w'
def RcS (N:Nat):Prop:=∀ (B:Nat) (t:VT) (lv:Value) (d:Nat) (w:World),t.Fine→LAt B w N lv t.list→B≤w.heap.size→d+nodes t≤1000000000→
    Calls Tryz.prog 95 #[t.agg lv,.int .i64 d] w fun r w'=>r= .returned (.int .i64 (checkT t d))∧Below w.heap.size w w'
theorem rchecks (HO:OwnS):∀ N,RcS N:=by
 intro N
 induction N with
 |zero=>intro B t lv d w _ h;exact h.elim
 |succ N ih=>
  intro B t lv d w hf hl hB hn
  have HS:=Lib.hid ih
  have HL:=Lib.hid hl
  obtain ⟨p,c,rfl⟩:=hl.slice
  have hlen:t.list.length≤9223372036854775807:=hl.len
  obtain ⟨W1,hW1⟩:∃ W1,w.alloc (.cells #[.int .i64 t.kind,.int .u64 t.num,.string t.text,.slice p t.list.length c,.int .i64 t.elem] 42)=W1:=⟨_,rfl⟩
  obtain ⟨b1,b2,b3⟩:=one_block hW1
  have k1:Cells W1 w.heap.size 0 (t.cells (.slice p t.list.length c)):=Cells.of_heap (cs:=t.cells (.slice p t.list.length c)) b1
  have l0:=wload_value k1
  have HOW:=Lib.hid (HO (N+1) B t (.slice p t.list.length c) d W1 hf (hl.below (b3.mono hB)) (by omega) (by omega))
  have HK:Hid (∀ v,Below (w.heap.size+1) W1 v→(Instr.loadAt 31 (.pointer (some ⟨w.heap.size,3,none⟩))).run Tryz.prog v= .ok (.slice p t.list.length c) v∧Below w.heap.size w v):=fun v h=>
   ⟨wload_slice ((h.cell (p:=⟨w.heap.size,3,none⟩) (Nat.lt_succ_self _)).trans (wcell_of k1 3 _ rfl)),b3.trans (h.mono (Nat.le_succ _))⟩
  have hnd:=Lib.hid (nodes_eq t)
  have HCE:=Lib.hid (checkT_eq t d)
  obtain ⟨R,hR⟩:∃ R,checkT t d=R:=⟨_,rfl⟩
  rw [hR] at HCE ⊢
  clear hl ih b1 b3 k1 hR hf
  obtain ⟨k,hk⟩:∃ k,aloneT t d=k:=⟨_,rfl⟩
  rw [hk] at HCE HOW
  clear hk
  go_enter Tryz.func95,Tryz.ntmps95
  go_wp2_with (fail)
  clear hW1 l0
  refine HOW.out.mono ?_
  rintro r w2 ⟨rfl,hb2⟩
  have B2:=Lib.hid (hb2.mono (Nat.le_of_eq b2.symm))
  have hz2:w.heap.size+1≤w2.heap.size:=by have:=hb2.size;omega
  obtain ⟨_,hbw⟩:=HK.out w2 B2.out
  have BW2:=Lib.hid hbw
  clear hb2 hbw HOW
  by_cases hk0:k=0
  ·subst hk0
   have HQ0:Hid (checkTs (t.list.drop 0) (d+1)=R):=by
    show _=_
    rw [List.drop_zero,HCE.out];simp
   obtain ⟨m,hm⟩:∃ m,t.list.length=m:=⟨_,rfl⟩
   have Hm:=Lib.hid hm
   rw [hm] at hlen HL HK ⊢
   clear hm HCE
   go_wp2
   go_loopw [5,6] (fun e i wr=>∃ (j:Nat),i= .int .i64 j∧j≤m∧Hid (checkTs (t.list.drop j) (d+1)=R)∧Hid (Below (w.heap.size+1) W1 wr)) (fun _ i _=>m-(intOf i).toNat)
   case atStart=>exact ⟨0,rfl,Nat.zero_le _,HQ0,B2⟩
   case round=>
    obtain ⟨j,rfl,hj,HQ,hb⟩:=hrel
    obtain ⟨l1,hbw⟩:=HK.out wr hb.out
    have BW:=Lib.hid hbw
    by_cases hlt:j<m
    ·rcases HL.out with ⟨h0,_⟩|⟨b,off,c',hp,hbB,_,hel⟩
     ·exfalso;have:=Hm.out;rw [h0] at this;simp at this;omega
     rw [Hm.out] at hp
     cases hp
     obtain ⟨u,hu⟩:∃ u,t.list[j]? =some u:=⟨_,List.getElem?_eq_getElem (by rw [Hm.out];exact hlt)⟩
     obtain ⟨uf,ulv,hat,hul⟩:=hel j u hu
     have hbB2:Below B w wr:=hbw.mono hB
     have l3:=wload_value (at5_cells (hat.below hbB2 hbB))
     have hi0:(0:Int)≤(j:Int):=by omega
     have hi1:(j:Int)<(m:Int):=by omega
     have hna:=nodesL_at hu
     have hwd:IntKind.i64.wrap ((d:Int)+1)=d+1:=by rw [IntKind.wrap_i64];have:=hnd.out;omega
     have hc:=HS.out B u ulv (d+1) wr uf (hul.below hbB2) (by have:=hbw.size;omega) (by have:=hnd.out;omega)
     have hst:=checkTs_step hu ((d:Int)+1)
     obtain ⟨X,hX⟩:∃ X,checkT u ((d:Int)+1)=X:=⟨_,rfl⟩
     rw [hX] at hst
     have hc':Calls Tryz.prog 95 #[u.agg ulv,.int .i64 ((d:Int)+1)] wr fun r w'=>r= .returned (.int .i64 X)∧Below wr.heap.size wr w':=by rw [←hX];exact hc
     have HC:=Lib.hid hc'
     have HST:=Lib.hid hst
     have hzw:=Lib.hid hb.out.size
     clear hel hat hul uf hu hbB2 hna hc hc' hst hX hbw
     by_cases hX0:X=0
     ·subst hX0
      go_wp2_with (go_at_call 95;refine HC.out.mono ?_;rintro r w4 ⟨rfl,hb4⟩)
      go_roundw
      case rel=>exact ⟨j+1,by go_num,by omega,by show _=_;rw [←HQ.out,HST.out];simp,hb.out.trans (hb4.mono (by have:=hzw.out;omega))⟩
      case measure=>simp [intOf];omega
     ·have hne:(X !=0)=true:=by simp [hX0]
      have HX0:=Lib.hid hX0
      clear hX0
      go_wp2_with (go_at_call 95;refine HC.out.mono ?_;rintro r w4 ⟨rfl,hb4⟩)
      go_ret
      exact ⟨wret_int (by rw [←HQ.out,HST.out,if_pos HX0.out]),BW.out.trans (hb4.mono BW.out.size)⟩
    ·obtain rfl:j=m:=by omega
     go_wp2
     go_ret
     exact ⟨wret_int (by rw [←HQ.out,←Hm.out,checkTs_end]),BW.out⟩
  ·have hne:(k !=0)=true:=by simp [hk0]
   have HR:Hid (R=k):=by show R=k;rw [HCE.out,if_pos hk0]
   clear hk0 HCE
   go_wp2
   go_ret
   exact ⟨wret_int HR.out.symm,BW2.out⟩
end Go.Proofs.YtfoiaiblggapeaaGreatDoor.Va
namespace Go.Proofs.YtfoiaiblggapeaaGreatDoor.Va
open Go Go.RowKit Nu
attribute [local go_sem ↓] Go.wp_at_zero Go.wp_at_succ
theorem rload_int {w:World} {a:Addr} {v:Value} (h:w.cell? a=some v):(Instr.loadAt 3 (.pointer (some a))).run Tryz.prog w= .ok v w:=by
 have:=Tryz.underlying3
 have:=Tryz.sizeOf3
 go_simp
theorem rret_bool {a b:Bool} (h:a=b):Ending.returned (.bool a)= .returned (.bool b):=by rw [h]
attribute [-go_sem] Go.Instr.loadAt Go.Instr.storeAt
theorem rarrayed {N B:Nat} (t:VT) (lv:Value) (w:World) (hl:LAt B w N lv t.list) (hB:B≤w.heap.size):
 Calls Tryz.prog 130 #[t.agg lv] w fun r w'=>r= .returned (.bool (arrT t.elem t.list))∧Below w.heap.size w w':=by
 have HL:=Lib.hid hl
 obtain ⟨p,c,rfl⟩:=hl.slice
 have hlen:t.list.length≤9223372036854775807:=hl.len
 obtain ⟨W1,hW1⟩:∃ W1,w.alloc (.cells #[.int .i64 t.kind,.int .u64 t.num,.string t.text,.slice p t.list.length c,.int .i64 t.elem] 42)=W1:=⟨_,rfl⟩
 obtain ⟨b1,b2,b3⟩:=one_block hW1
 have k1:Cells W1 w.heap.size 0 (t.cells (.slice p t.list.length c)):=Cells.of_heap (cs:=t.cells (.slice p t.list.length c)) b1
 have l0:=rload_int (wcell_of k1 4 _ rfl)
 have HK:Hid (∀ v,Below (w.heap.size+1) W1 v→(Instr.loadAt 31 (.pointer (some ⟨w.heap.size,3,none⟩))).run Tryz.prog v= .ok (.slice p t.list.length c) v∧(Instr.loadAt 3 (.pointer (some ⟨w.heap.size,4,none⟩))).run Tryz.prog v= .ok (.int .i64 t.elem) v∧Below w.heap.size w v):=fun v h=>
  ⟨wload_slice ((h.cell (p:=⟨w.heap.size,3,none⟩) (Nat.lt_succ_self _)).trans (wcell_of k1 3 _ rfl)),rload_int ((h.cell (p:=⟨w.heap.size,4,none⟩) (Nat.lt_succ_self _)).trans (wcell_of k1 4 _ rfl)),b3.trans (h.mono (Nat.le_succ _))⟩
 have HB3:=Lib.hid b3
 obtain ⟨R,hR⟩:∃ R,arrT t.elem t.list=R:=⟨_,rfl⟩
 have HR:=Lib.hid hR
 rw [hR]
 clear hl b1 b3 k1 hR
 by_cases he:0<t.elem∧t.elem<24
 ·obtain ⟨he0,he1⟩:=he
  have f0:¬t.elem≤0:=by omega
  have f1:¬24≤t.elem:=by omega
  have HQ0:Hid (((t.list.drop 0).all fun u=>decide (u.kind=t.elem))=R):=by
   show _=_
   rw [←HR.out,List.drop_zero]
   simp [arrT,he0,he1]
  obtain ⟨m,hm⟩:∃ m,t.list.length=m:=⟨_,rfl⟩
  have Hm:=Lib.hid hm
  rw [hm] at hlen HL HK hW1
  go_enter Tryz.func130,Tryz.ntmps130
  rw [hm]
  clear hm
  go_wp2
  clear hW1 l0
  go_loopw [3] (fun i wr=>∃ (j:Nat),i= .int .i64 j∧j≤m∧Hid (((t.list.drop j).all fun u=>decide (u.kind=t.elem))=R)∧Hid (Below (w.heap.size+1) W1 wr)) (fun i _=>m-(intOf i).toNat)
  case atStart=>exact ⟨0,rfl,Nat.zero_le _,HQ0,Below.refl _ _⟩
  case round=>
   obtain ⟨j,rfl,hj,HQ,hb⟩:=hrel
   obtain ⟨l1,l2,hbw⟩:=HK.out wr hb.out
   have BW:=Lib.hid hbw
   by_cases hlt:j<m
   ·cases N with
    |zero=>exact HL.out.elim
    |succ N=>
    rcases HL.out with ⟨h0,_⟩|⟨b,off,c',hp,hbB,_,hel⟩
    ·exfalso;have:=Hm.out;rw [h0] at this;simp at this;omega
    rw [Hm.out] at hp
    cases hp
    obtain ⟨u,hu⟩:∃ u,t.list[j]? =some u:=⟨_,List.getElem?_eq_getElem (by rw [Hm.out];exact hlt)⟩
    obtain ⟨uf,ulv,hat,hul⟩:=hel j u hu
    have hk:=(hat.below (hbw.mono hB) hbB).kind
    have hi0:(0:Int)≤(j:Int):=by omega
    have hi1:(j:Int)<(m:Int):=by omega
    have hst:=Lib.hid (show ((t.list.drop j).all fun u=>decide (u.kind=t.elem))=(decide (u.kind=t.elem)&&((t.list.drop (j+1)).all fun u=>decide (u.kind=t.elem))) by rw [drop_cons_at hu,List.all_cons])
    have HALL:Hid ((Instr.loadAt 31 (.pointer (some ⟨w.heap.size,3,none⟩))).run Tryz.prog wr.drew= .ok (.slice (some ⟨b,off,none⟩) m c) wr.drew∧(Instr.loadAt 3 (.pointer (some ⟨w.heap.size,4,none⟩))).run Tryz.prog wr.drew= .ok (.int .i64 t.elem) wr.drew∧(Instr.loadAt 3 (.pointer (some ⟨b,off+j*5,none⟩))).run Tryz.prog wr.drew= .ok (.int .i64 u.kind) wr.drew):=
     ⟨(HK.out wr.drew (hb.out.trans (Below.refl _ _).drew)).1,(HK.out wr.drew (hb.out.trans (Below.refl _ _).drew)).2.1,rload_int hk⟩
    clear hel hat hul uf hu hk hbw
    by_cases hke:u.kind=t.elem
    ·have e1:(u.kind !=t.elem)=false:=by simp [hke]
     have HKE:=Lib.hid hke
     clear hke
     go_wp2
     go_region_held3 (fun w'=>(Instr.loadAt 31 (.pointer (some ⟨w.heap.size,3,none⟩))).run Tryz.prog w'= .ok (.slice (some ⟨b,off,none⟩) m c) w'∧(Instr.loadAt 3 (.pointer (some ⟨w.heap.size,4,none⟩))).run Tryz.prog w'= .ok (.int .i64 t.elem) w'∧(Instr.loadAt 3 (.pointer (some ⟨b,off+j*5,none⟩))).run Tryz.prog w'= .ok (.int .i64 u.kind) w')
      (first|exact HALL.out|assumption)
      (fail)
     clear HALL
     go_wp2
     go_roundw
     case rel=>exact ⟨j+1,by go_num,by omega,by show _=_;rw [←HQ.out,hst.out,HKE.out];simp,hb.out.trans (Below.refl _ _).drew⟩
     case measure=>simp [intOf];omega
    ·have e1:(u.kind !=t.elem)=true:=by simp [hke]
     have HKE:=Lib.hid hke
     clear hke
     go_wp2
     go_region_held3 (fun w'=>(Instr.loadAt 31 (.pointer (some ⟨w.heap.size,3,none⟩))).run Tryz.prog w'= .ok (.slice (some ⟨b,off,none⟩) m c) w'∧(Instr.loadAt 3 (.pointer (some ⟨w.heap.size,4,none⟩))).run Tryz.prog w'= .ok (.int .i64 t.elem) w'∧(Instr.loadAt 3 (.pointer (some ⟨b,off+j*5,none⟩))).run Tryz.prog w'= .ok (.int .i64 u.kind) w')
      (first|exact HALL.out|assumption)
      (fail)
     clear HALL
     go_wp2
     go_ret
     exact ⟨rret_bool (by rw [←HQ.out,hst.out];simp [HKE.out]),BW.out.trans (Below.refl _ _).drew⟩
   ·obtain rfl:j=m:=by omega
    go_wp2
    go_ret
    exact ⟨rret_bool (by rw [←HQ.out,←Hm.out,List.drop_length];rfl),BW.out⟩
 ·have HF:Hid (false=R):=by
   show _=_
   rw [←HR.out]
   unfold arrT
   by_cases h1:0<t.elem
   ·have:¬t.elem<24:=fun h=>he ⟨h1,h⟩
    simp [this]
   ·simp [h1]
  go_enter Tryz.func130,Tryz.ntmps130
  clear HR HL
  have hw:Hid (Below w.heap.size w W1):=HB3
  go_wp2
  all_goals first
   |(go_ret;exact ⟨rret_bool HF.out,hw.out⟩)
   |(exfalso;apply he;constructor<;>omega)
end Go.Proofs.YtfoiaiblggapeaaGreatDoor.Va
namespace Go.Proofs.YtfoiaiblggapeaaGreatDoor.Va
open Go Go.RowKit Nu Uc
theorem rbyte {s:ByteArray} {k:Nat} (h:k<s.size):s[k].toNat=(s.get! k).toNat:=by rw [get!_lt s k h]
theorem rletter2 (s:ByteArray) (w:World) (hs:s.size≤9223372036854775807) (h:0<s.size) (h0:194≤(s.get! 0).toNat) (h1:(s.get! 0).toNat<224):
 Calls Tryz.prog 159 #[.string s] w fun r w'=>r= .returned (.int .i64 (ch s 0:Nat))∧w'=w:=by
 have HL:=Lib.hid (let2 h h0 h1)
 have hb:=Lib.hid (rbyte h)
 have c0:(194:Int)≤(s[0].toNat:Int):=by rw [rbyte h];omega
 have c1:(s[0].toNat:Int)<224:=by rw [rbyte h];omega
 have c2:(0:Int)<(s.size:Int):=by omega
 clear h0 h1
 by_cases hz:s.size<2
 ·have HE:Hid (((ch s 0:Nat):Int)=0):=by show _=_;rw [HL.out,if_pos hz]
  have hzi:(s.size:Int)<2:=by omega
  clear HL hz
  go_enter Tryz.func159,Tryz.ntmps159
  go_wp2
  go_ret
  exact ⟨ret_int HE.out.symm,rfl⟩
 ·have HE:Hid (contL s 2 128 1 1 ((s[0].toNat:Int)-192)=((ch s 0:Nat):Int)):=by show _=_;rw [HL.out,if_neg hz,rbyte h]
  have hzi:(2:Int)≤(s.size:Int):=by omega
  clear HL hb
  go_enter Tryz.func159,Tryz.ntmps159
  go_wp2
  go_loop [5,7,8] (fun p i _=>∃ (j:Nat) (q:Int),p= .int .i64 q∧i= .int .i64 j∧1≤j∧j≤2∧Hid (0≤q∧(j≠1∨q<64)∧(j≠2∨q<4096)∧(j≠3∨q<262144)∧q<16777216)∧Hid (contL s 2 128 (2-j) j q=((ch s 0:Nat):Int))) (fun _ i _=>2-(intOf i).toNat)
  case atStart=>exact ⟨1,_,rfl,rfl,Nat.le_refl _,by omega,⟨by omega,by omega,by omega,by omega,by omega⟩,HE.out⟩
  case round=>
   obtain ⟨j,q,rfl,rfl,hj1,hj,HR,HQ⟩:=hrel
   by_cases hlt:j<2
   ·have hjs:j<s.size:=by omega
    have hbb:=rbyte hjs
    have hq:=HQ.out
    rw [show 2-j=(2-(j+1))+1 by omega,cont_law,←hbb] at hq
    have hr:=HR.out
    have hji:(j:Int)<(s.size:Int):=by omega
    have hj0:(0:Int)≤(j:Int):=by omega
    have hjn:(j:Int)<2:=by omega
    have d1:(s[j].toNat:Int)≤255:=by have:=s[j].toNat_lt;omega
    have q0:0≤q:=hr.1
    have q1:q≤262144:=by omega
    by_cases hd:s[j].toNat<128∨191<s[j].toNat
    ·rw [if_pos hd] at hq
     have HZ:=Lib.hid hq
     clear hq hbb hr
     rcases hd with hd|hd
     ·have hdi:(s[j].toNat:Int)<128:=by omega
      clear hd
      go_wp2
      go_ret
      exact ⟨ret_int HZ.out,rfl⟩
     ·have hdi:(191:Int)<(s[j].toNat:Int):=by omega
      have hdj:(128:Int)≤(s[j].toNat:Int):=by omega
      clear hd
      go_wp2
      go_ret
      exact ⟨ret_int HZ.out,rfl⟩
    ·rw [if_neg hd] at hq
     have HZ:=Lib.hid hq
     have hdi:(s[j].toNat:Int)≤191:=by omega
     have hdj:(128:Int)≤(s[j].toNat:Int):=by omega
     clear hd hq hbb hr
     go_wp2
     go_round
     case rel=>exact ⟨j+1,64*q+s[j].toNat-128,by go_num,by go_num,by omega,by omega,by have:=HR.out;refine ⟨by omega,by omega,by omega,by omega,by omega⟩,HZ.out⟩
     case measure=>simp [intOf];omega
   ·obtain rfl:j=2:=by omega
    have hq:=HQ.out
    rw [Nat.sub_self] at hq
    unfold contL at hq
    have HZ:=Lib.hid hq
    clear hq HQ
    go_wp2
    all_goals
     go_ret
     refine ⟨ret_int ?_,rfl⟩
     rw [←HZ.out]
     clear HZ HE
     go_light
     split<;>first|rfl|(exfalso;simp_all;done)|(exfalso;simp_all;omega)
theorem rletter3 (s:ByteArray) (w:World) (hs:s.size≤9223372036854775807) (h:0<s.size) (h0:224≤(s.get! 0).toNat) (h1:(s.get! 0).toNat<240):
 Calls Tryz.prog 159 #[.string s] w fun r w'=>r= .returned (.int .i64 (ch s 0:Nat))∧w'=w:=by
 have HL:=Lib.hid (let3 h h0 h1)
 have hb:=Lib.hid (rbyte h)
 have c0:(224:Int)≤(s[0].toNat:Int):=by rw [rbyte h];omega
 have c1:(s[0].toNat:Int)<240:=by rw [rbyte h];omega
 have c2:(0:Int)<(s.size:Int):=by omega
 clear h0 h1
 by_cases hz:s.size<3
 ·have HE:Hid (((ch s 0:Nat):Int)=0):=by show _=_;rw [HL.out,if_pos hz]
  have hzi:(s.size:Int)<3:=by omega
  clear HL hz
  go_enter Tryz.func159,Tryz.ntmps159
  go_wp2
  go_ret
  exact ⟨ret_int HE.out.symm,rfl⟩
 ·have HE:Hid (contL s 3 2048 2 1 ((s[0].toNat:Int)-224)=((ch s 0:Nat):Int)):=by show _=_;rw [HL.out,if_neg hz,rbyte h]
  have hzi:(3:Int)≤(s.size:Int):=by omega
  clear HL hb
  go_enter Tryz.func159,Tryz.ntmps159
  go_wp2
  go_loop [5,7,8] (fun p i _=>∃ (j:Nat) (q:Int),p= .int .i64 q∧i= .int .i64 j∧1≤j∧j≤3∧Hid (0≤q∧(j≠1∨q<64)∧(j≠2∨q<4096)∧(j≠3∨q<262144)∧q<16777216)∧Hid (contL s 3 2048 (3-j) j q=((ch s 0:Nat):Int))) (fun _ i _=>3-(intOf i).toNat)
  case atStart=>exact ⟨1,_,rfl,rfl,Nat.le_refl _,by omega,⟨by omega,by omega,by omega,by omega,by omega⟩,HE.out⟩
  case round=>
   obtain ⟨j,q,rfl,rfl,hj1,hj,HR,HQ⟩:=hrel
   by_cases hlt:j<3
   ·have hjs:j<s.size:=by omega
    have hbb:=rbyte hjs
    have hq:=HQ.out
    rw [show 3-j=(3-(j+1))+1 by omega,cont_law,←hbb] at hq
    have hr:=HR.out
    have hji:(j:Int)<(s.size:Int):=by omega
    have hj0:(0:Int)≤(j:Int):=by omega
    have hjn:(j:Int)<3:=by omega
    have d1:(s[j].toNat:Int)≤255:=by have:=s[j].toNat_lt;omega
    have q0:0≤q:=hr.1
    have q1:q≤262144:=by omega
    by_cases hd:s[j].toNat<128∨191<s[j].toNat
    ·rw [if_pos hd] at hq
     have HZ:=Lib.hid hq
     clear hq hbb hr
     rcases hd with hd|hd
     ·have hdi:(s[j].toNat:Int)<128:=by omega
      clear hd
      go_wp2
      go_ret
      exact ⟨ret_int HZ.out,rfl⟩
     ·have hdi:(191:Int)<(s[j].toNat:Int):=by omega
      have hdj:(128:Int)≤(s[j].toNat:Int):=by omega
      clear hd
      go_wp2
      go_ret
      exact ⟨ret_int HZ.out,rfl⟩
    ·rw [if_neg hd] at hq
     have HZ:=Lib.hid hq
     have hdi:(s[j].toNat:Int)≤191:=by omega
     have hdj:(128:Int)≤(s[j].toNat:Int):=by omega
     clear hd hq hbb hr
     go_wp2
     go_round
     case rel=>exact ⟨j+1,64*q+s[j].toNat-128,by go_num,by go_num,by omega,by omega,by have:=HR.out;refine ⟨by omega,by omega,by omega,by omega,by omega⟩,HZ.out⟩
     case measure=>simp [intOf];omega
   ·obtain rfl:j=3:=by omega
    have hq:=HQ.out
    rw [Nat.sub_self] at hq
    unfold contL at hq
    have HZ:=Lib.hid hq
    clear hq HQ
    go_wp2
    all_goals
     go_ret
     refine ⟨ret_int ?_,rfl⟩
     rw [←HZ.out]
     clear HZ HE
     go_light
     split<;>first|rfl|(exfalso;simp_all;done)|(exfalso;simp_all;omega)
theorem rletter4 (s:ByteArray) (w:World) (hs:s.size≤9223372036854775807) (h:0<s.size) (h0:240≤(s.get! 0).toNat) (h1:(s.get! 0).toNat<245):
 Calls Tryz.prog 159 #[.string s] w fun r w'=>r= .returned (.int .i64 (ch s 0:Nat))∧w'=w:=by
 have HL:=Lib.hid (let4 h h0 h1)
 have hb:=Lib.hid (rbyte h)
 have c0:(240:Int)≤(s[0].toNat:Int):=by rw [rbyte h];omega
 have c1:(s[0].toNat:Int)<245:=by rw [rbyte h];omega
 have c2:(0:Int)<(s.size:Int):=by omega
 clear h0 h1
 by_cases hz:s.size<4
 ·have HE:Hid (((ch s 0:Nat):Int)=0):=by show _=_;rw [HL.out,if_pos hz]
  have hzi:(s.size:Int)<4:=by omega
  clear HL hz
  go_enter Tryz.func159,Tryz.ntmps159
  go_wp2
  go_ret
  exact ⟨ret_int HE.out.symm,rfl⟩
 ·have HE:Hid (contL s 4 65536 3 1 ((s[0].toNat:Int)-240)=((ch s 0:Nat):Int)):=by show _=_;rw [HL.out,if_neg hz,rbyte h]
  have hzi:(4:Int)≤(s.size:Int):=by omega
  clear HL hb
  go_enter Tryz.func159,Tryz.ntmps159
  go_wp2
  go_loop [5,7,8] (fun p i _=>∃ (j:Nat) (q:Int),p= .int .i64 q∧i= .int .i64 j∧1≤j∧j≤4∧Hid (0≤q∧(j≠1∨q<64)∧(j≠2∨q<4096)∧(j≠3∨q<262144)∧q<16777216)∧Hid (contL s 4 65536 (4-j) j q=((ch s 0:Nat):Int))) (fun _ i _=>4-(intOf i).toNat)
  case atStart=>exact ⟨1,_,rfl,rfl,Nat.le_refl _,by omega,⟨by omega,by omega,by omega,by omega,by omega⟩,HE.out⟩
  case round=>
   obtain ⟨j,q,rfl,rfl,hj1,hj,HR,HQ⟩:=hrel
   by_cases hlt:j<4
   ·have hjs:j<s.size:=by omega
    have hbb:=rbyte hjs
    have hq:=HQ.out
    rw [show 4-j=(4-(j+1))+1 by omega,cont_law,←hbb] at hq
    have hr:=HR.out
    have hji:(j:Int)<(s.size:Int):=by omega
    have hj0:(0:Int)≤(j:Int):=by omega
    have hjn:(j:Int)<4:=by omega
    have d1:(s[j].toNat:Int)≤255:=by have:=s[j].toNat_lt;omega
    have q0:0≤q:=hr.1
    have q1:q≤262144:=by omega
    by_cases hd:s[j].toNat<128∨191<s[j].toNat
    ·rw [if_pos hd] at hq
     have HZ:=Lib.hid hq
     clear hq hbb hr
     rcases hd with hd|hd
     ·have hdi:(s[j].toNat:Int)<128:=by omega
      clear hd
      go_wp2
      go_ret
      exact ⟨ret_int HZ.out,rfl⟩
     ·have hdi:(191:Int)<(s[j].toNat:Int):=by omega
      have hdj:(128:Int)≤(s[j].toNat:Int):=by omega
      clear hd
      go_wp2
      go_ret
      exact ⟨ret_int HZ.out,rfl⟩
    ·rw [if_neg hd] at hq
     have HZ:=Lib.hid hq
     have hdi:(s[j].toNat:Int)≤191:=by omega
     have hdj:(128:Int)≤(s[j].toNat:Int):=by omega
     clear hd hq hbb hr
     go_wp2
     go_round
     case rel=>exact ⟨j+1,64*q+s[j].toNat-128,by go_num,by go_num,by omega,by omega,by have:=HR.out;refine ⟨by omega,by omega,by omega,by omega,by omega⟩,HZ.out⟩
     case measure=>simp [intOf];omega
   ·obtain rfl:j=4:=by omega
    have hq:=HQ.out
    rw [Nat.sub_self] at hq
    unfold contL at hq
    have HZ:=Lib.hid hq
    clear hq HQ
    go_wp2
    all_goals
     go_ret
     refine ⟨ret_int ?_,rfl⟩
     rw [←HZ.out]
     clear HZ HE
     go_light
     split<;>first|rfl|(exfalso;simp_all;done)|(exfalso;simp_all;omega)
theorem rletter_any (s:ByteArray) (w:World) (hs:s.size≤9223372036854775807) (h:0<s.size):
 Calls Tryz.prog 159 #[.string s] w fun r w'=>r= .returned (.int .i64 (ch s 0:Nat))∧w'=w:=by
 by_cases a:(s.get! 0).toNat<128
 ·have HE:=Lib.hid (let1 h a)
  have c1:(s[0].toNat:Int)<128:=by rw [rbyte h];omega
  have c2:(0:Int)<(s.size:Int):=by omega
  clear a
  go_enter Tryz.func159,Tryz.ntmps159
  go_wp2
  go_ret
  exact ⟨by rw [HE.out];rfl,rfl⟩
 by_cases b:(s.get! 0).toNat<194∨245≤(s.get! 0).toNat
 ·have HE:=Lib.hid (let0 (by omega) b)
  have c1:(128:Int)≤(s[0].toNat:Int):=by rw [rbyte h];omega
  have c2:(0:Int)<(s.size:Int):=by omega
  have c4:(s[0].toNat:Int)≤255:=by have:=s[0].toNat_lt;omega
  have c3:(s[0].toNat:Int)<194∨(245:Int)≤(s[0].toNat:Int):=by rw [rbyte h];omega
  clear a b
  rcases c3 with c3|c3
  all_goals
   go_enter Tryz.func159,Tryz.ntmps159
   go_wp2
   go_ret
   exact ⟨by rw [HE.out];rfl,rfl⟩
 by_cases c:(s.get! 0).toNat<224
 ·exact rletter2 s w hs h (by omega) c
 by_cases d:(s.get! 0).toNat<240
 ·exact rletter3 s w hs h (by omega) d
 exact rletter4 s w hs h (by omega) (by omega)
theorem rbool {a b:Bool} (h:a=b):Ending.returned (.bool a)= .returned (.bool b):=by rw [h]
theorem utf_pos (s:ByteArray) (k:Nat) (h:utf s=k):decide (utf s<0)=false:=by rw [h];simp
theorem utf_neg (s:ByteArray) (h:utf s= -1):decide (utf s<0)=true:=by rw [h];rfl
theorem asc_pos (s:ByteArray) (k:Nat) (h:asc s=k):decide (asc s<0)=false:=by rw [h];simp
theorem asc_neg (s:ByteArray) (h:asc s= -1):decide (asc s<0)=true:=by rw [h];rfl
theorem rtext_any (s:ByteArray) (w:World) (hs:s.size≤9223372036854775807):
 Calls Tryz.prog 143 #[.string s] w fun r w'=>r= .returned (.bool (decide (utf s<0)))∧w'=w:=by
 go_enter Tryz.func143,Tryz.ntmps143
 go_wp2
 go_loop [3] (fun i=>∃ (k:Nat),i= .int .i64 k∧k≤s.size∧Hid (utfFrom s k=utf s)) (fun i=>s.size-(intOf i).toNat)
 case atStart=>exact ⟨0,rfl,Nat.zero_le _,rfl⟩
 case round=>
  obtain ⟨k,rfl,hk,HQ⟩:=hrel
  by_cases hlt:k<s.size
  ·have hz:(s.extract k s.size).size=s.size-k:=by simp
   have HL:=Lib.hid (rletter_any (s.extract k s.size) w (by omega) (by omega))
   rw [ch_extract s k (by omega)] at HL
   have hfit:=ch_fit (s:=s) (k:=k)
   have hk0:(0:Int)≤(k:Int):=by omega
   have hk1:(k:Int)<(s.size:Int):=by omega
   clear hz
   by_cases hc:ch s k=0
   ·have HE:=Lib.hid (utf_pos s k (HQ.out.symm.trans (utf_bad hlt hc)))
    rw [hc] at HL
    clear hfit hc
    go_wp2_with (go_at_call 159;refine HL.out.mono ?_;rintro r w2 ⟨rfl,rfl⟩)
    go_ret
    exact ⟨rbool HE.out.symm,rfl⟩
   ·have HE:=Lib.hid ((utf_step hlt hc).symm.trans HQ.out)
    have hfit:=hfit hc
    obtain ⟨c,hcc⟩:∃ c,ch s k=c:=⟨_,rfl⟩
    rw [hcc] at HL HE hfit hc
    have hne:((c:Int)==0)=false:=by simp;omega
    clear hcc
    go_wp2_with (go_at_call 159;refine HL.out.mono ?_;rintro r w2 ⟨rfl,rfl⟩)
    go_round
    case rel=>exact ⟨k+c,by go_num,by omega,HE.out⟩
    case measure=>simp [intOf];omega
  ·obtain rfl:k=s.size:=by omega
   have HE:=Lib.hid (utf_neg s (HQ.out.symm.trans (utf_end hlt)))
   go_wp2
   go_ret
   exact ⟨rbool HE.out.symm,rfl⟩
theorem rplain_any (s:ByteArray) (w:World) (hs:s.size≤9223372036854775807):
 Calls Tryz.prog 144 #[.string s] w fun r w'=>r= .returned (.bool (decide (asc s<0)))∧w'=w:=by
 go_enter Tryz.func144,Tryz.ntmps144
 go_wp2
 go_loop [3] (fun i=>∃ (k:Nat),i= .int .i64 k∧k≤s.size∧Hid (ascFrom s k=asc s)) (fun i=>s.size-(intOf i).toNat)
 case atStart=>exact ⟨0,rfl,Nat.zero_le _,rfl⟩
 case round=>
  obtain ⟨k,rfl,hk,HQ⟩:=hrel
  by_cases hlt:k<s.size
  ·by_cases hc:128≤s[k].toNat
   ·have HE:=Lib.hid (asc_pos s k (HQ.out.symm.trans (asc_hit hlt hc)))
    have hci:(128:Int)≤(s[k].toNat:Int):=by omega
    clear hc
    go_wp2
    go_ret
    exact ⟨rbool HE.out.symm,rfl⟩
   ·have HE:Hid (ascFrom s (k+1)=asc s):=(asc_step hlt hc).symm.trans HQ.out
    have hci:(s[k].toNat:Int)<128:=by omega
    clear hc
    go_wp2
    go_round
    case rel=>exact ⟨k+1,by go_num,by omega,HE.out⟩
    case measure=>simp [intOf];omega
  ·obtain rfl:k=s.size:=by omega
   have HE:=Lib.hid (asc_neg s (HQ.out.symm.trans (asc_end (Nat.le_refl _))))
   go_wp2
   go_ret
   exact ⟨rbool HE.out.symm,rfl⟩
theorem rspelled_raw (k m:Int) (s:ByteArray) (lv:Value) (e:Int) (w:World) (hs:s.size≤9223372036854775807):
 Calls Tryz.prog 128 #[.agg #[.int .i64 k,.int .u64 m,.string s,lv,.int .i64 e]] w fun r w'=>r= .returned (.bool (textT k s))∧Below w.heap.size w w':=by
 obtain ⟨W1,hW1⟩:∃ W1,w.alloc (.cells #[.int .i64 k,.int .u64 m,.string s,lv,.int .i64 e] 42)=W1:=⟨_,rfl⟩
 have HB:Hid (Below w.heap.size w W1):=by rw [←hW1];exact (Below.refl _ _).alloc (Nat.le_refl _) _
 have HU:=Lib.hid (rtext_any s W1 hs)
 have HA:=Lib.hid (rplain_any s W1 hs)
 rw [←hW1] at HU HA HB
 clear hW1
 go_enter Tryz.func128,Tryz.ntmps128
 go_wp2_with (first
  |(go_at_call 143;refine HU.out.mono ?_;rintro r w2 ⟨rfl,rfl⟩)
  |(go_at_call 144;refine HA.out.mono ?_;rintro r w2 ⟨rfl,rfl⟩))
 all_goals
  go_ret
  refine ⟨rbool ?_,HB.out⟩
  clear HU HA HB
  go_light
  simp_all [textT]
 all_goals first
  |omega
  |(rw [Bool.eq_iff_iff];simp;omega)
end Go.Proofs.YtfoiaiblggapeaaGreatDoor.Va
namespace Go.Proofs.YtfoiaiblggapeaaGreatDoor.Va
open Go Go.RowKit Nu
attribute [local go_sem ↓] Go.wp_at_zero Go.wp_at_succ
theorem rmapped {N B:Nat} (l:List VT) (lv:Value) (w:World) (hl:LAt B w N lv l) (hB:B≤w.heap.size):
 Calls Tryz.prog 129 #[lv] w fun r w'=>r= .returned (.bool (mapT l))∧Below w.heap.size w w':=by
 have HL:=Lib.hid hl
 obtain ⟨p,c,rfl⟩:=hl.slice
 have hlen:l.length≤9223372036854775807:=hl.len
 clear hl
 obtain ⟨R,hR⟩:∃ R,mapT l=R:=⟨_,rfl⟩
 have HR:=Lib.hid hR
 rw [hR]
 clear hR
 obtain ⟨n,hn⟩:∃ n,l.length=n:=⟨_,rfl⟩
 have Hn:=Lib.hid hn
 rw [hn] at hlen HL ⊢
 clear hn
 by_cases hodd:n%2=0
 ·by_cases hmany:n≤2048
  ·have e1:(n:Int)%2=0:=by omega
   have e2:(n:Int)/2≤1024:=by omega
   have Ho:=Lib.hid hodd
   clear hodd
   go_enter Tryz.func129,Tryz.ntmps129
   go_wp2
   clear e1 e2
   go_loopw [3] (fun i wr=>∃ (a:Nat),i= .int .i64 ((2*a:Nat):Int)∧2*a≤n∧Hid (∀ (p q:Nat) (x y:VT),p<q→q<a→l[2*q]? =some x→l[2*p]? =some y→eqT x y=false)∧Hid (Below w.heap.size w wr)) (fun i _=>n-(intOf i).toNat)
   case atStart=>exact ⟨0,rfl,Nat.zero_le _,fun p q x y _ h=>by omega,Below.refl _ _⟩
   case round=>
    obtain ⟨a,rfl,ha,HQ,HB⟩:=hrel
    by_cases hlt:2*a<n
    ·have hlt2:2*a+2≤n:=by have:=Ho.out;omega
     have hmn:n≤2048:=hmany
     cases N with
     |zero=>exact HL.out.elim
     |succ N=>
     obtain ⟨x,hx⟩:∃ x,l[2*a]? =some x:=⟨_,List.getElem?_eq_getElem (by rw [Hn.out];exact hlt)⟩
     rcases HL.out with ⟨h0,_⟩|⟨b,off,c',hp,hbB,_,hel⟩
     ·exfalso;have:=Hn.out;rw [h0] at this;simp at this;omega
     rw [Hn.out] at hp
     cases hp
     obtain ⟨xf,xv,xat,xl⟩:=hel (2*a) x hx
     have HX:=Lib.hid hx
     have HAT:=Lib.hid xat
     have HXL:=Lib.hid xl
     have HEL:=Lib.hid hel
     obtain ⟨i,hi⟩:∃ i,2*a=i:=⟨_,rfl⟩
     have Hi:=Lib.hid hi
     rw [hi] at hlt hlt2 HX HAT ⊢
     have hi0:(0:Int)≤(i:Int):=by omega
     have hi1:(i:Int)<(n:Int):=by omega
     clear hx hel xat xl hi
     go_wp2
     go_loopw [4] (fun kv wq=>∃ (q:Nat),kv= .int .i64 ((2*q:Nat):Int)∧q≤a∧Hid (∀ (p:Nat) (y:VT),p<q→l[2*p]? =some y→eqT x y=false)∧Hid (Below w.heap.size w wq)) (fun kv _=>i-(intOf kv).toNat)
     case atStart=>exact ⟨0,rfl,Nat.zero_le _,fun p y h=>by omega,HB.out⟩
     case round=>
      obtain ⟨q,rfl,hq,HP,HB2⟩:=hrel
      by_cases hltq:q<a
      ·obtain ⟨y,hy⟩:∃ y,l[2*q]? =some y:=⟨_,List.getElem?_eq_getElem (by have:=Hi.out;rw [Hn.out];omega)⟩
       obtain ⟨yf,yv,yat,yl⟩:=HEL.out (2*q) y hy
       have hbB2:Below B w wr:=HB2.out.mono hB
       obtain ⟨e0,e1,e2,e3,e4⟩:=HAT.out.below hbB2 hbB
       obtain ⟨f0,f1,f2,f3,f4⟩:=yat.below hbB2 hbB
       have hz:=HB2.out.size
       have hEq:=Lib.hid (equal_raw N B x.kind x.num x.text x.elem x.list xv y.kind y.num y.text y.elem y.list yv wr.drew (HXL.out.below (hbB2.drew)) (yl.below hbB2.drew) (by show B≤wr.heap.size;omega))
       rw [VT.eta,VT.eta] at hEq
       have HY:=Lib.hid hy
       obtain ⟨X,hX⟩:∃ X,eqT x y=X:=⟨_,rfl⟩
       rw [hX] at hEq
       have HX2:=Lib.hid hX
       obtain ⟨j,hj⟩:∃ j,2*q=j:=⟨_,rfl⟩
       have Hj:=Lib.hid hj
       have hji:j+2≤i:=by have:=Hi.out;omega
       rw [hj] at f0 f1 f2 f3 f4 HY ⊢
       have hj0:(0:Int)≤(j:Int):=by omega
       have hj1:(j:Int)<(i:Int):=by omega
       have hj2:(j:Int)<(n:Int):=by omega
       have hb0:b<wr.heap.size:=by omega
       have HALL:Hid (∀ w',Below wr.heap.size wr w'→(Below wr.heap.size wr w'∧w'.cell? ⟨b,off+i*5,none⟩=some (.int .i64 x.kind)∧w'.cell? ⟨b,off+i*5+1,none⟩=some (.int .u64 x.num)∧w'.cell? ⟨b,off+i*5+2,none⟩=some (.string x.text)∧w'.cell? ⟨b,off+i*5+3,none⟩=some xv∧w'.cell? ⟨b,off+i*5+4,none⟩=some (.int .i64 x.elem)∧
        w'.cell? ⟨b,off+j*5,none⟩=some (.int .i64 y.kind)∧w'.cell? ⟨b,off+j*5+1,none⟩=some (.int .u64 y.num)∧w'.cell? ⟨b,off+j*5+2,none⟩=some (.string y.text)∧w'.cell? ⟨b,off+j*5+3,none⟩=some yv∧w'.cell? ⟨b,off+j*5+4,none⟩=some (.int .i64 y.elem))):=fun w' h=>
        have k:∀ o,w'.cell? ⟨b,o,none⟩=wr.cell? ⟨b,o,none⟩:=fun o=>h.cell (p:=⟨b,o,none⟩) hb0
        ⟨h,(k _).trans e0,(k _).trans e1,(k _).trans e2,(k _).trans e3,(k _).trans e4,(k _).trans f0,(k _).trans f1,(k _).trans f2,(k _).trans f3,(k _).trans f4⟩
       clear yat yl hy hX hj
       go_wp2
       go_region_held3 (fun w'=>Below wr.heap.size wr w'∧w'.cell? ⟨b,off+i*5,none⟩=some (.int .i64 x.kind)∧w'.cell? ⟨b,off+i*5+1,none⟩=some (.int .u64 x.num)∧w'.cell? ⟨b,off+i*5+2,none⟩=some (.string x.text)∧w'.cell? ⟨b,off+i*5+3,none⟩=some xv∧w'.cell? ⟨b,off+i*5+4,none⟩=some (.int .i64 x.elem)∧
        w'.cell? ⟨b,off+j*5,none⟩=some (.int .i64 y.kind)∧w'.cell? ⟨b,off+j*5+1,none⟩=some (.int .u64 y.num)∧w'.cell? ⟨b,off+j*5+2,none⟩=some (.string y.text)∧w'.cell? ⟨b,off+j*5+3,none⟩=some yv∧w'.cell? ⟨b,off+j*5+4,none⟩=some (.int .i64 y.elem))
        (first
          |exact HALL.out _ (Below.refl _ _)
          |exact HALL.out _ (Below.refl _ _).drew
          |exact HALL.out _ (((Below.refl _ _).drew).trans hb2)
          |assumption)
        ((go_at_call 21;refine hEq.out.mono ?_;rintro r w2 ⟨hr,hb2⟩;subst hr;replace hb2:Below wr.heap.size wr.drew w2:=hb2))
       have hb3:=Lib.hid (HB2.out.trans (((Below.refl _ _).drew.trans hb2).mono hz))
       clear HALL e0 e1 e2 e3 e4 f0 f1 f2 f3 f4 hEq
       cases X with
       |false=>
        have HN:Hid (∀ (p:Nat) (y:VT),p<q+1→l[2*p]? =some y→eqT x y=false):=fun p' y' hp' hy'=>by
         rcases Nat.lt_or_ge p' q with h|h
         ·exact HP.out p' y' h hy'
         ·obtain rfl:p'=q:=by omega
          rw [Hj.out,HY.out] at hy'
          cases hy'
          exact HX2.out
        go_wp2
        go_roundw
        case rel=>exact ⟨q+1,by rw [show ((2*(q+1):Nat):Int)=(j:Int)+2 by have:=Hj.out;omega],by omega,HN.out,hb3.out⟩
        case measure=>simp [intOf];omega
       |true=>
        have HE:Hid (R=false):=HR.out.symm.trans (map_dup (by rw [Hn.out];exact Ho.out) hltq (by rw [Hi.out];exact HX.out) (by rw [Hj.out];exact HY.out) HX2.out)
        go_wp2
        go_ret
        exact ⟨rbool HE.out.symm,hb3.out⟩
      ·obtain rfl:q=a:=by omega
       have HN:Hid (∀ (p q':Nat) (x y:VT),p<q'→q'<q+1→l[2*q']? =some x→l[2*p]? =some y→eqT x y=false):=fun p' q' x' y' h1 h2 hx' hy'=>by
        rcases Nat.lt_or_ge q' q with h|h
        ·exact HQ.out p' q' x' y' h1 h hx' hy'
        ·obtain rfl:q'=q:=by omega
         rw [Hi.out,HX.out] at hx'
         cases hx'
         exact HP.out p' y' h1 hy'
       rw [Hi.out]
       go_wp2
       go_roundw
       case rel=>exact ⟨q+1,by rw [show ((2*(q+1):Nat):Int)=(i:Int)+2 by have:=Hi.out;omega],by have:=Hi.out;omega,HN.out,HB2.out⟩
       case measure=>simp [intOf];omega
    ·have han:2*a=n:=by omega
     have HE:Hid (R=true):=HR.out.symm.trans (map_free (by rw [Hn.out];exact Ho.out) (by rw [Hn.out];exact hmany) fun p q x y h1 hx hy=>HQ.out p q x y h1 (by have:=(List.getElem?_eq_some_iff.1 hx).1;rw [Hn.out] at this;omega) hx hy)
     rw [han]
     go_wp2
     go_ret
     exact ⟨rbool HE.out.symm,HB.out⟩
  ·have HE:Hid (R=false):=HR.out.symm.trans (map_many (by have:=Hn.out;omega))
   have e1:(n:Int)%2=0:=by omega
   have e2:¬((n:Int)/2≤1024):=by omega
   clear hmany hodd
   go_enter Tryz.func129,Tryz.ntmps129
   go_wp2
   go_ret
   exact ⟨rbool HE.out.symm,Below.refl _ _⟩
 ·have HE:Hid (R=false):=HR.out.symm.trans (map_odd (by rw [Hn.out];exact hodd))
  have e1:¬((n:Int)%2=0):=by omega
  clear hodd
  go_enter Tryz.func129,Tryz.ntmps129
  go_wp2
  go_ret
  exact ⟨rbool HE.out.symm,Below.refl _ _⟩
end Go.Proofs.YtfoiaiblggapeaaGreatDoor.Va
