/-
  Proved: the law longshorelaw07.ShapePacks returns true for any record; the tables of the library are as the program's text lays them (the card's tie). Conditions: none beside the row's own (laid).
-/
import Derived.Test.YtfoiaiblggapeaaGreatDoorCards
import Derived.Test.YtfoiaiblggapeaaGreatDoorTie
import Derived.Test.YtfoiaiblggapeaaGreatDoorZPUC0
import Derived.ProofKit
import Derived.OpenShut
import Derived.LaidLaws
import Derived.Lay
import Derived.MakeChecks
import Derived.SevenTiedAt
import Derived.JoinedOf
import Derived.ChangeVars
import Derived.Lib.LaidU8T
set_option maxHeartbeats 40000000
set_option maxRecDepth 100000
namespace Go.Proofs.YtfoiaiblggapeaaGreatDoor.shapePacks
open Go Go.ChangeShapes Go.WideShapes Go.ChangeAt Go.RowKit Nu Va Uc
section
attribute [-go_sem] Go.Instr.loadAt Go.Instr.storeAt
theorem walk_raw {N:Nat} (k:Int) (l:List VT) (lv:Value) (w:World) (hl:LAt w.heap.size w N lv l) (hE:Env w)
 {tt:TypeId} (hsp:w.heap[0]? =some (.cells (Lib.asciiSpaceTab.map fun z=>Value.int .u8 z).toArray tt (0,0))):
 Calls Tryz.prog 5 #[.agg #[.int .i64 k,lv]] w fun r w'=>r= .returned (.bool true)∧Below w.heap.size w w':=by
 obtain ⟨p,c,rfl⟩:=hl.slice
 obtain ⟨W1,hW1⟩:∃ W1,w.alloc (.cells #[.int .i64 k,.slice p l.length c] 33)=W1:=⟨_,rfl⟩
 obtain ⟨x1,hz1,hb1⟩:=one_box (cs:=[.int .i64 k,.slice p l.length c]) hW1
 have HB1:=Lib.hid hb1
 have HLD:Hid (∀ v,Below W1.heap.size W1 v→(Instr.loadAt 3 (.pointer (some ⟨w.heap.size,0,none⟩))).run Tryz.prog v= .ok (.int .i64 k) v∧(Instr.loadAt 31 (.pointer (some ⟨w.heap.size,1,none⟩))).run Tryz.prog v= .ok (.slice p l.length c) v∧(Instr.loadAt 33 (.pointer (some ⟨w.heap.size,0,none⟩))).run Tryz.prog v= .ok (.agg #[.int .i64 k,.slice p l.length c]) v):=fun v h=>
  ⟨pload_int ((x1.below h (by omega)).cell (j:=0) rfl),wload_slice ((x1.below h (by omega)).cell (j:=1) rfl),pload_rec (x1.below h (by omega))⟩
 have HO:Hid (∀ v,Below w.heap.size w v→LAt w.heap.size v N (.slice p l.length c) l∧Env v):=fun v h=>⟨hl.below h,hE.below h⟩
 have HG:=Lib.hid (greatAll_any (w:=W1) (hl.below hb1) (by omega))
 have hsp1:W1.heap[0]? =some (.cells (Lib.asciiSpaceTab.map fun z=>Value.int .u8 z).toArray tt (0,0)):=(hb1.block _ (Array.getElem?_eq_some_iff.1 hsp).1).trans hsp
 have HSP:Hid (∀ v,Below W1.heap.size W1 v→Calls Tryz.prog 7 #[] v fun e w'=>e= .returned (.bool true)∧Below v.heap.size v w'):=fun v h=>live_any ((h.block _ (Array.getElem?_eq_some_iff.1 hsp1).1).trans hsp1)
 obtain ⟨_,l2,_⟩:=HLD.out W1 (Below.refl _ _)
 obtain ⟨G,hG⟩:∃ G,decide (100000<wts l 0)=G:=⟨_,rfl⟩
 have HGG:=Lib.hid hG
 rw [hG] at HG
 clear hl hE hsp hsp1 hb1 x1 hG
 go_enter Tryz.func5,Tryz.ntmps5
 go_wp2_with (fail)
 clear hW1 l2
 refine HG.out.mono ?_
 rintro r w2 ⟨rfl,hb2⟩
 have HB2:=Lib.hid hb2
 have z2:=hb2.size
 clear hb2 HG
 cases G with
 |true=>
  go_wp2
  go_ret
  exact ⟨rfl,HB1.out.trans (HB2.out.mono (by omega))⟩
 |false=>
 have hsm:¬100000<wts l 0:=of_decide_eq_false HGG.out
 have HSM:Hid (Sms l∧(nodesL l+13)*2^3≤800000000∧nodesL l≤100000):=⟨⟨0,by omega⟩,by have:=small_nodes hsm;omega,small_nodes hsm⟩
 clear hsm
 go_wp2_with (fail)
 refine (HSP.out w2 HB2.out).mono ?_
 rintro r V ⟨rfl,hbv⟩
 have HBV:=Lib.hid (HB2.out.trans (hbv.mono z2))
 have zV:=HBV.out.size
 clear hbv HSP
 have hD:Below V.heap.size V V.drew:=(Below.refl _ _).drew
 have hDA:Below V.heap.size V ((V.alloc (.cells #[.int .i64 0,.slice none 0 0] 33)).drew):=((Below.refl _ _).alloc (Nat.le_refl _) _).drew
 obtain ⟨xA0,hzA0,_⟩:=one_box (w:=V) (cs:=[.int .i64 0,.slice none 0 0]) (T:=33) rfl
 have hzA:((V.alloc (.cells #[.int .i64 0,.slice none 0 0] 33)).drew).heap.size=V.heap.size+1:=hzA0
 have xA:Box ((V.alloc (.cells #[.int .i64 0,.slice none 0 0] 33)).drew) V.heap.size [.int .i64 0,.slice none 0 0]:=xA0.heap rfl
 clear xA0 hzA0
 have HLX:Hid (∀ v,Below V.heap.size V v→(Instr.loadAt 3 (.pointer (some ⟨w.heap.size,0,none⟩))).run Tryz.prog v= .ok (.int .i64 k) v∧(Instr.loadAt 31 (.pointer (some ⟨w.heap.size,1,none⟩))).run Tryz.prog v= .ok (.slice p l.length c) v):=fun v h=>let ⟨a,b,_⟩:=HLD.out v (HBV.out.trans (h.mono zV));⟨a,b⟩
 have HLN:Hid (∀ v,Below V.heap.size V v→Calls Tryz.prog 15 #[.slice p l.length c] v fun r w'=>∃ v',r= .returned v'∧LentAt w' N v.heap.size w'.heap.size v' l∧Below v.heap.size v w'):=fun v h=>by
  have hb:Below w.heap.size w v:=HB1.out.trans ((HBV.out.trans (h.mono zV)).mono (by omega))
  exact lents N w.heap.size _ l v (HO.out v hb).1 HSM.out.1 hb.size
 go_wp2
 go_region_held3 (fun v=>(Instr.loadAt 3 (.pointer (some ⟨w.heap.size,0,none⟩))).run Tryz.prog v= .ok (.int .i64 k) v∧(Instr.loadAt 31 (.pointer (some ⟨w.heap.size,1,none⟩))).run Tryz.prog v= .ok (.slice p l.length c) v)
  (first
    |with_reducible exact hv8
    |with_reducible exact hv7
    |with_reducible exact hv6
    |with_reducible exact HLX.out _ hDA
    |with_reducible exact HLX.out _ hD)
  ((go_at_call 15
    go_must (
    first
     |(refine (HLN.out V.drew hD).mono ?_
       go_must (
       rintro r w6 ⟨v6,rfl,hl6,hb6'⟩
       obtain ⟨b6,e6⟩:=hl6.form
       obtain ⟨q6,c6,rfl⟩:∃ q c,v6= .slice q l.length c:=⟨_,_,e6⟩
       have hb6:Below V.heap.size V w6:=hD.trans hb6'
       have hz6:=hb6.size
       obtain ⟨x7,hz7,hb7⟩:=one_box (w:=w6) (cs:=[.int .i64 0,.slice none 0 0]) (T:=33) rfl
       have h7:Below V.heap.size V (w6.alloc (.cells #[.int .i64 0,.slice none 0 0] 33)):=hb6.trans (hb7.mono hz6)
       have hv6:=HLX.out _ hb6
       have hv7:=HLX.out _ h7
       obtain ⟨X8,hst8,_,x8,hb8,hz8,hsm8⟩:=rec_store x7 rfl k q6 l.length c6
       have h8:Below V.heap.size V X8:=h7.trans (hb8.mono hz6)
       have hv8:=HLX.out _ h8
       obtain ⟨lb,hlb⟩:∃ lb,w6.heap.size=lb:=⟨_,rfl⟩
       obtain ⟨lo,hlo⟩:∃ lo,V.heap.size=lo:=⟨_,rfl⟩
       obtain ⟨hi,hhi⟩:∃ hi,w6.heap.size=hi:=⟨_,rfl⟩
       have HL8:Hid (LentR X8 N lo hi lb k (.slice q6 l.length c6) l):=by
        rw [←hlb,←hlo,←hhi]
        exact ⟨(hl6.below (Nat.le_refl _) hb7).apart (x:=w6.heap.size) (y:=w6.heap.size+1) ⟨hb8.os,hb8.tape,hb8.output,hb8.size,fun j hj hjo=>hsm8 j (by omega)⟩ (by omega) (.inl (Nat.le_refl _)),x8,by omega,by omega,.inr (Nat.le_refl _)⟩
       have HLO:Hid (V.heap.size≤lo):=Nat.le_of_eq hlo
       have H8:=Lib.hid h8
       rw [hlb] at hst8
       clear h8 hb8 h7 hz7 hb7 x7 x8 hz8 hsm8 hb6 hb6' hl6 hlo hhi e6))
     |(refine (HLN.out ((V.alloc (.cells #[.int .i64 0,.slice none 0 0] 33)).drew) hDA).mono ?_
       go_must (
       rintro r w6 ⟨v6,rfl,hl6,hb6'⟩
       obtain ⟨b6,e6⟩:=hl6.form
       obtain ⟨q6,c6,rfl⟩:∃ q c,v6= .slice q l.length c:=⟨_,_,e6⟩
       have hb6:Below V.heap.size V w6:=hDA.trans (hb6'.mono hDA.size)
       have hz6:V.heap.size+1≤w6.heap.size:=by have:=hb6'.size;omega
       have x7:=xA.below hb6' (by omega)
       have hv6:=HLX.out _ hb6
       obtain ⟨X8,hst8,_,x8,hb8,hz8,hsm8⟩:=rec_store x7 rfl k q6 l.length c6
       have h8:Below V.heap.size V X8:=hb6.trans hb8
       have hv8:=HLX.out _ h8
       obtain ⟨lb,hlb⟩:∃ lb,V.heap.size=lb:=⟨_,rfl⟩
       obtain ⟨lo,hlo⟩:∃ lo,((V.alloc (.cells #[.int .i64 0,.slice none 0 0] 33)).drew).heap.size=lo:=⟨_,rfl⟩
       obtain ⟨hi,hhi⟩:∃ hi,w6.heap.size=hi:=⟨_,rfl⟩
       have HL8:Hid (LentR X8 N lo hi lb k (.slice q6 l.length c6) l):=by
        rw [←hlb,←hlo,←hhi]
        exact ⟨hl6.apart (x:=V.heap.size) (y:=V.heap.size+1) ⟨hb8.os,hb8.tape,hb8.output,hb8.size,fun j hj hjo=>hsm8 j (by omega)⟩ (by omega) (.inr (by omega)),x8,by omega,by omega,.inl (by omega)⟩
       have HLO:Hid (V.heap.size≤lo):=by show _≤_;omega
       have H8:=Lib.hid h8
       rw [hlb] at hst8
       clear h8 hb8 x7 x8 hz8 hsm8 hb6 hb6' hl6 hlo hhi e6)))))
 all_goals
  have hlent:=HL8.out
  have hzs:=H8.out.size
  have hB1X:Below W1.heap.size W1 X8:=HBV.out.trans (H8.out.mono zV)
  have HBX:=Lib.hid hB1X
  have HBW:=Lib.hid (HB1.out.trans (hB1X.mono (by omega)))
  have hwX:w.heap.size+1≤X8.heap.size:=by omega
  have hloX:w.heap.size≤lo∧hi≤X8.heap.size:=⟨by have:=HLO.out;omega,hlent.hi_le⟩
  obtain ⟨a,ha⟩:∃ a,packAns k l (recC (readF 3) (packF 3) k l)=a:=⟨_,rfl⟩
  obtain ⟨y,hy⟩:∃ y,okV a=y:=⟨_,rfl⟩
  obtain ⟨e,he⟩:∃ e,errI a=e:=⟨_,rfl⟩
  obtain ⟨n,hn⟩:∃ n,y.list.length=n:=⟨_,rfl⟩
  have HY:Hid (nodes y≤200003):=by
   show _≤_
   rw [←hy,←ha]
   have:=pack_small (k:=k) HSM.out.2.1 (recC (readF 3) (packF 3) k l)
   have:=HSM.out.2.2
   omega
  have HPK:Hid (∀ v,Below X8.heap.size X8 v→Calls Tryz.prog 19 #[.agg #[.int .i64 k,.slice q6 l.length c6]] v fun r w'=>Below v.heap.size v w'∧∃ q d us,r= .returned (.tuple #[y.agg (.slice q n d),.int .i64 e])∧y.Fine∧OL w' LV (.slice q n d) y.list us∧Blk v.heap.size w'.heap.size us∧ApartV us):=fun v h=>by
   have hl:=HL8.out.below h
   have hw:Below w.heap.size w v:=HBW.out.trans (h.mono (by omega))
   have:=recPack_any (B:=v.heap.size) k l (.slice q6 l.length c6) v (HO.out v hw).2 (hl.list.lat hl.hi_le) (Nat.le_refl _) HSM.out.2.1
   refine this.mono fun r w' hans=>?_
   rw [ha] at hans
   have:=ReadAns.get2 hans
   rw [hy,he,hn] at this
   exact this
  have HRP:Hid (∀ v,Below X8.heap.size X8 v→Calls Tryz.prog 20 #[.agg #[.int .i64 k,.slice p l.length c]] v fun r w'=>Below v.heap.size v w'∧∃ q d M,r= .returned (.tuple #[y.agg (.slice q n d),.int .i64 e])∧y.Fine∧LAtP (fun b=>b<w.heap.size∨v.heap.size≤b) w' M (.slice q n d) y.list):=fun v h=>by
   have hw:Below w.heap.size w v:=HBW.out.trans (h.mono (by omega))
   have:=rrecPack_any (P:=fun b=>b<w.heap.size) k l (.slice p l.length c) v (fun b hb=>Nat.lt_of_lt_of_le hb hw.size) (HO.out v hw).2 ((HO.out v hw).1.latP hw.size) HSM.out.2.1
   refine this.mono fun r w' hans=>?_
   rw [ha] at hans
   have:=RItAns.get2 hans
   rw [hy,he,hn] at this
   exact this
  have Hn:=Lib.hid hn
  have m1:=pload_rec hlent.box
  clear ha hy he hn hlent hB1X hv8
  go_wp2_with (fail)
  clear m1
  refine (HPK.out X8 (Below.refl _ _)).mono ?_
  rintro r w9 ⟨hb9,q1,d1,us1,rfl,yf,o1,k1,a1⟩
  obtain ⟨Wa9,hWa9⟩:∃ Wa,w9.alloc (.cells #[.int .i64 0,.int .u64 0,.string ⟨#[]⟩,.slice none 0 0,.int .i64 0] 42)=Wa:=⟨_,rfl⟩
  obtain ⟨xa9,hza9,hba9⟩:=one_box (cs:=zeroT.cells (.slice none 0 0)) hWa9
  obtain ⟨X9,hst9,bx9,hbb9,hzb9⟩:=val_box xa9 rfl y q1 n d1
  have nb9:Below w9.heap.size w9 X9:=hba9.trans hbb9
  have zb9:X9.heap.size=w9.heap.size+1:=by omega
  clear xa9 hza9 hba9 hbb9 hzb9
  have z9:=hb9.size
  have hb89:Below X8.heap.size X8 X9:=hb9.trans (nb9.mono z9)
  have HB89:=Lib.hid hb89
  have V1:Hid (Box X9 w9.heap.size (y.cells (.slice q1 n d1))∧OL X9 LV (.slice q1 n d1) y.list us1∧Blk X8.heap.size w9.heap.size us1∧ApartV us1):=⟨bx9,o1.below nb9,k1,a1⟩
  have YF:=Lib.hid yf
  obtain ⟨_,_,m2⟩:=HLD.out X9 (HBX.out.trans (hb89.mono (by omega)))
  clear bx9 nb9 o1 k1 a1 yf hb9 hb89
  go_wp2_with (fail)
  clear hWa9 hst9 m2
  refine (HRP.out X9 HB89.out).mono ?_
  rintro r w10 ⟨hb10,q2,d2,M2,rfl,_,o2⟩
  obtain ⟨Wa10,hWa10⟩:∃ Wa,w10.alloc (.cells #[.int .i64 0,.int .u64 0,.string ⟨#[]⟩,.slice none 0 0,.int .i64 0] 42)=Wa:=⟨_,rfl⟩
  obtain ⟨xa10,hza10,hba10⟩:=one_box (cs:=zeroT.cells (.slice none 0 0)) hWa10
  obtain ⟨X10,hst10,bx10,hbb10,hzb10⟩:=val_box xa10 rfl y q2 n d2
  have nb10:Below w10.heap.size w10 X10:=hba10.trans hbb10
  have zb10:X10.heap.size=w10.heap.size+1:=by omega
  clear xa10 hza10 hba10 hbb10 hzb10
  have z10:=hb10.size
  have hb910:Below X9.heap.size X9 X10:=hb10.trans (nb10.mono z10)
  have HB810:=Lib.hid (HB89.out.trans (hb910.mono (by omega)))
  have V1b:Hid (Box X10 w9.heap.size (y.cells (.slice q1 n d1))∧OL X10 LV (.slice q1 n d1) y.list us1):=⟨V1.out.1.below hb910 (by omega),V1.out.2.1.below hb910⟩
  have V2:Hid (Box X10 w10.heap.size (y.cells (.slice q2 n d2))∧LAtP (fun b=>b<w.heap.size∨X9.heap.size≤b) X10 M2 (.slice q2 n d2) y.list):=⟨bx10,o2.below nb10⟩
  have m3:=wload_value V1b.out.1.1
  have m4:=wload_value V2.out.1.1
  have HEQ:Hid (∀ v a b q d q' d' M M',LAt v.heap.size v M (.slice q n d) y.list→LAt v.heap.size v M' (.slice q' n d') y.list→a=(y.agg (.slice q n d):Value)→b=(y.agg (.slice q' n d'):Value)→Calls Tryz.prog 21 #[a,b] v fun r w'=>r= .returned (.bool true)∧Below v.heap.size v w'):=fun v a b q d q' d' M M' h1 h2 ea eb=>by
   subst ea eb
   have:=equal_any (N:=M+M') (B:=v.heap.size) (t:=y) (t':=y) (w:=v) ⟨YF.out,.slice q n d,rfl,h1.mono (by omega)⟩ ⟨YF.out,.slice q' n d',rfl,h2.mono (by omega)⟩ (Nat.le_refl _)
   rw [eqT_self] at this
   exact this
  have S3:=Lib.hid (HEQ.out X10 _ _ q1 d1 q2 d2 LV M2 V1b.out.2.lat V2.out.2.lat rfl rfl)
  clear bx10 nb10 o2 hb10 hb910
  go_wp2_with (fail)
  clear hWa10 hst10 m3 m4
  refine S3.out.mono ?_
  rintro r w11 ⟨rfl,hb11⟩
  have z11:=hb11.size
  have HB811:=Lib.hid (HB810.out.trans (hb11.mono (by omega)))
  have V1c:Hid (Box w11 w9.heap.size (y.cells (.slice q1 n d1))∧OL w11 LV (.slice q1 n d1) y.list us1):=⟨V1b.out.1.below hb11 (by omega),V1b.out.2.below hb11⟩
  have V2b:Hid (Box w11 w10.heap.size (y.cells (.slice q2 n d2))∧LAtP (fun b=>b<w.heap.size∨X9.heap.size≤b) w11 M2 (.slice q2 n d2) y.list):=⟨V2.out.1.below hb11 (by omega),V2.out.2.below hb11⟩
  have m5:=pload_rec (HL8.out.below HB811.out).box
  clear hb11 S3 V1b V2
  go_wp2_with (fail)
  clear m5
  refine (HPK.out w11 HB811.out).mono ?_
  rintro r w12 ⟨hb12,q3,d3,us3,rfl,_,o3,k3,a3⟩
  obtain ⟨Wa12,hWa12⟩:∃ Wa,w12.alloc (.cells #[.int .i64 0,.int .u64 0,.string ⟨#[]⟩,.slice none 0 0,.int .i64 0] 42)=Wa:=⟨_,rfl⟩
  obtain ⟨xa12,hza12,hba12⟩:=one_box (cs:=zeroT.cells (.slice none 0 0)) hWa12
  obtain ⟨X12,hst12,bx12,hbb12,hzb12⟩:=val_box xa12 rfl y q3 n d3
  have nb12:Below w12.heap.size w12 X12:=hba12.trans hbb12
  have zb12:X12.heap.size=w12.heap.size+1:=by omega
  clear xa12 hza12 hba12 hbb12 hzb12
  have z12:=hb12.size
  have hb1112:Below w11.heap.size w11 X12:=hb12.trans (nb12.mono z12)
  have HB812:=Lib.hid (HB811.out.trans (hb1112.mono (by omega)))
  have V3:Hid (Box X12 w12.heap.size (y.cells (.slice q3 n d3))∧OL X12 LV (.slice q3 n d3) y.list us3∧Blk w11.heap.size w12.heap.size us3∧ApartV us3):=⟨bx12,o3.below nb12,k3,a3⟩
  have V1d:Hid (Box X12 w9.heap.size (y.cells (.slice q1 n d1))∧OL X12 LV (.slice q1 n d1) y.list us1):=⟨V1c.out.1.below hb1112 (by omega),V1c.out.2.below hb1112⟩
  have V2c:Hid (Box X12 w10.heap.size (y.cells (.slice q2 n d2))∧LAtP (fun b=>b<w.heap.size∨X9.heap.size≤b) X12 M2 (.slice q2 n d2) y.list):=⟨V2b.out.1.below hb1112 (by omega),V2b.out.2.below hb1112⟩
  have HV:Hid (∀ v,Apart lo hi X12 v→(Instr.loadAt 42 (.pointer (some ⟨w9.heap.size,0,none⟩))).run Tryz.prog v= .ok (y.agg (.slice q1 n d1)) v∧(Instr.loadAt 42 (.pointer (some ⟨w10.heap.size,0,none⟩))).run Tryz.prog v= .ok (y.agg (.slice q2 n d2)) v∧(Instr.loadAt 42 (.pointer (some ⟨w12.heap.size,0,none⟩))).run Tryz.prog v= .ok (y.agg (.slice q3 n d3)) v∧OL v LV (.slice q1 n d1) y.list us1∧LAt v.heap.size v M2 (.slice q2 n d2) y.list∧OL v LV (.slice q3 n d3) y.list us3∧X12.heap.size≤v.heap.size):=fun v h=>
   ⟨wload_value (V1d.out.1.heap (h.block _ (by omega) (.inr (by omega)))).1,wload_value (V2c.out.1.heap (h.block _ (by omega) (.inr (by omega)))).1,wload_value (V3.out.1.heap (h.block _ (by omega) (.inr (by omega)))).1,
     V1d.out.2.heap h.size fun u hu b hb=>h.block b (by have:=V1.out.2.2.1 u hu b hb;omega) (.inr (by have:=V1.out.2.2.1 u hu b hb;omega)),
     (V2c.out.2.heap h.size fun b hb hlt=>h.block b hlt (by rcases hb with h|h;exact .inl (by omega);exact .inr (by omega))).lat,
     V3.out.2.1.heap h.size fun u hu b hb=>h.block b (by have:=V3.out.2.2.1 u hu b hb;omega) (.inr (by have:=V3.out.2.2.1 u hu b hb;omega)),h.size⟩
  have hl12:=HL8.out.below HB812.out
  have hbw12:Below w.heap.size w X12:=HBW.out.trans (HB812.out.mono (by omega))
  have S5:=Lib.hid (kepts N w.heap.size lo hi (.slice q6 l.length c6) (.slice p l.length c) l X12 hl12.list (HO.out X12 hbw12).1 (by omega) hl12.hi_le)
  have HBW12:=Lib.hid hbw12
  have m6:=wload_slice (hl12.box.cell (j:=1) rfl)
  obtain ⟨_,m7,_⟩:=HLD.out X12 (HBX.out.trans (HB812.out.mono (by omega)))
  clear bx12 nb12 o3 k3 a3 hb12 hb1112 hl12 hbw12 V1c V2b V1d V2c
  go_wp2_with (fail)
  clear hWa12 hst12 m6 m7
  refine S5.out.mono ?_
  rintro r w13 ⟨rfl,ha13⟩
  have HA13:=Lib.hid ha13
  obtain ⟨m8,m9,_,o1,o2,_,_⟩:=HV.out w13 ha13
  have S6:=Lib.hid (HEQ.out w13 _ _ q1 d1 q2 d2 LV M2 o1.lat o2 rfl rfl)
  clear ha13 S5 o1 o2
  go_wp2_with (fail)
  clear m8 m9
  refine S6.out.mono ?_
  rintro r w14 ⟨rfl,hb14⟩
  have HA14:=Lib.hid (HA13.out.trans (Apart.of_below hb14 (Nat.le_refl _)))
  obtain ⟨_,m9,m10,_,o2,o3,_⟩:=HV.out w14 HA14.out
  have S7:=Lib.hid (HEQ.out w14 _ _ q3 d3 q2 d2 LV M2 o3.lat o2 rfl rfl)
  clear hb14 S6 o2 o3
  go_wp2_with (fail)
  clear m9 m10
  refine S7.out.mono ?_
  rintro r w15 ⟨rfl,hb15⟩
  have HA15:=Lib.hid (HA14.out.trans (Apart.of_below hb15 (Nat.le_refl _)))
  have z15:=HA15.out.size
  obtain ⟨X15,hX15⟩:∃ X15,w15.alloc (.cells #[.slice none 0 0] 49)=X15:=⟨_,rfl⟩
  have hbk0:BookAt BKT X15 w15.heap.size (.slice none 0 0) []:=by rw [←hX15];exact book_new _ _
  have hb1515:Below w15.heap.size w15 X15:=by rw [←hX15];exact (Below.refl _ _).alloc (Nat.le_refl _) _
  have HA15b:=Lib.hid (HA15.out.trans (Apart.of_below hb1515 (Nat.le_refl _)))
  obtain ⟨m11,_,_,o1,_,_,_⟩:=HV.out X15 HA15b.out
  have hcount:nodesL y.list≤200003:=by have:=HY.out;rw [nodes_eq] at this;omega
  have S8:=Lib.hid (take_of (takes LV) w15.heap.size (.slice none 0 0) (.slice q1 n d1) [] us1 y X15 hbk0 o1 (fun u hu b hb=>⟨Nat.zero_le _,by have:=(V1.out.2.2.1 u hu b hb).2;omega⟩) (by simp;omega))
  clear hb15 S7 o1 hbk0 hb1515
  go_wp2_with (fail)
  clear hX15 m11
  refine S8.out.mono ?_
  rintro r w16 ⟨rfl,bv1,hbk1,hb16⟩
  have HA16:Hid (Apart lo hi X12 w16):=⟨hb16.os.trans HA15b.out.os,hb16.tape.trans HA15b.out.tape,hb16.output.trans HA15b.out.output,Nat.le_trans HA15b.out.size hb16.size,fun j hj ho=>(hb16.block j (by omega)).trans (HA15b.out.block j hj ho)⟩
  obtain ⟨_,_,m12,_,_,o3,_⟩:=HV.out w16 HA16.out
  have hc1:us1.length≤200004:=by
   have:=ol_count V1.out.2.1
   omega
  have S9:=Lib.hid (take_of (takes LV) w15.heap.size bv1 (.slice q3 n d3) ([]++us1) us3 y w16 hbk1 o3 (fun u hu b hb=>⟨Nat.zero_le _,by have:=(V3.out.2.2.1 u hu b hb).2;omega⟩) (by rw [List.nil_append];omega))
  clear S8 o3 hbk1 hb16
  go_wp2_with (fail)
  clear m12
  refine S9.out.mono ?_
  rintro r w17 ⟨rfl,bv2,hbk2,hb17⟩
  have HA17:Hid (Apart lo hi X12 w17):=⟨hb17.os.trans HA16.out.os,hb17.tape.trans HA16.out.tape,hb17.output.trans HA16.out.output,Nat.le_trans HA16.out.size hb17.size,fun j hj ho=>(hb17.block j (by omega)).trans (HA16.out.block j hj ho)⟩
  have S10:Hid (Calls Tryz.prog 23 #[.pointer (some ⟨w15.heap.size,0,none⟩)] w17 fun r w'=>r= .returned (.bool true)∧(X8.heap.size≤w17.heap.size→Below X8.heap.size w17 w')):=by
   obtain ⟨_,_,_,o1,_,o3,_⟩:=HV.out w17 HA17.out
   have hc3:us3.length≤200004:=by have:=ol_count o3;omega
   refine bookOwned_any (N:=1000000000) hbk2 (fun u hu=>?_) (fun u hu b hb=>?_) ?_ (fun u hu p m c e=>?_) ⟨by omega,by omega⟩ (by rw [List.nil_append,List.length_append];omega)
   ·rw [List.nil_append] at hu
    rcases List.mem_append.1 hu with h|h
    ·exact o1.rows u h
    ·exact o3.rows u h
   ·rw [List.nil_append] at hu
    rcases List.mem_append.1 hu with h|h
    ·have:=V1.out.2.2.1 u h b hb;omega
    ·have:=V3.out.2.2.1 u h b hb;omega
   ·rw [List.nil_append]
    exact ApartV.append' V1.out.2.2.2 V3.out.2.2.2 V1.out.2.2.1 V3.out.2.2.1 (.inl (by omega))
   ·rw [List.nil_append] at hu
    rcases List.mem_append.1 hu with h|h
    ·have:=ol_rowlen o1 u h p m c e;omega
    ·have:=ol_rowlen o3 u h p m c e;omega
  clear S9 hbk2 hb17
  go_wp2_with (fail)
  refine S10.out.mono ?_
  rintro r w18 ⟨rfl,hb18⟩
  have HEND:Hid (Below w.heap.size w w18):=by
   have hz17:=HA17.out.size
   exact (HBW12.out.trans (HA17.out.below hloX.1 HBW12.out.size)).trans ((hb18 (by omega)).mono (by omega))
  clear S10 hb18
  go_wp2
  go_ret
  exact ⟨by simp,HEND.out⟩
end
theorem readable:∀ t∈[33],Tryz.prog.readableRec t=true∧t<Tryz.prog.types.size:=by
 intro t ht
 simp only [List.mem_cons,List.not_mem_nil,or_false] at ht
 subst ht
 exact ⟨by kernel_rfl,of_decide_eq_true (by kernel_rfl)⟩
theorem own:ownKnob Tryz.prog.godebug=none:=by kernel_rfl
theorem gSpace:Tryz.prog.globalNamed "strings.asciiSpace" =some 0:=by kernel_rfl
theorem spaceData:(Rows.laid_strings_asciiSpace:DataW Unit)=Lib.tabData .u8 Lib.asciiSpaceTab:=by kernel_rfl
theorem listed:("strings.asciiSpace",Lib.tabData .u8 Lib.asciiSpaceTab)∈Rows.shapePacksRow.laid:=by
 rw [←spaceData]
 exact List.Mem.tail _ (List.Mem.tail _ (List.Mem.head _))
theorem dataF:(Rows.laid_unicode_utf8_first:DataW Unit)=Lib.firstData:=by kernel_rfl
theorem dataA:(Rows.laid_unicode_utf8_acceptRanges:DataW Unit)=Lib.acceptData:=by kernel_rfl
theorem listF:("unicode/utf8.first",Lib.firstData)∈Rows.shapePacksRow.laid:=by
 rw [←dataF]
 exact .tail _ (.tail _ (.tail _ (.head _)))
theorem listA:("unicode/utf8.acceptRanges",Lib.acceptData)∈Rows.shapePacksRow.laid:=by
 rw [←dataA]
 exact .head _
theorem tabs {W:World} (hL:laidMet Tryz.prog Rows.shapePacksRow.laid W):Tabs W:=
 utf8Tabs_of_readsT (ρ:=Tryz.dec197_ren) {Tryz.dec197 with} ⟨by kernel_rfl,by kernel_rfl,by kernel_rfl,by kernel_rfl,by kernel_rfl,by kernel_rfl,by kernel_rfl⟩ (Lib.laidMet.reads hL listF) (Lib.laidMet.reads hL listA)
theorem lifted (os:Os) (started:os.Started) (H:Type) (enc:TypeId×Value→H):
 ReturnsInHanded {} Tryz.checked os 5 .any (fun w args=>(Rows.shapePacksSpec.pre enc Tryz.prog Tryz.f5 Rows.shapePacksRow.domain false w args∧laidMetH Tryz.prog Rows.shapePacksRow.laid w)∧sizedMet enc Tryz.prog Tryz.f5 (OpenSpec.ofChange Rows.shapePacksSpec) false w args)
  (Rows.shapePacksSpec.post enc Tryz.prog Tryz.f5 false true false false):=by
 refine returnsInHanded_of_change_and (C:=Tryz.checked) (X:=fun w _=>laidMetH Tryz.prog Rows.shapePacksRow.laid w) (fun _ _ _ hh h=>h.of_heap hh) own started (by kernel_rfl) Tryz.func5
  (ChangeSpec.witness_shaped (enc:=enc) (C:=Tryz.checked) (os:=os) (X:=fun w _=>laidMetH Tryz.prog Rows.shapePacksRow.laid w) false (World.laidAll Tryz.prog os Rows.shapePacksRow.laid) #[.agg #[.int .i64 0,.slice none 0 0]] 8 (World.laidAll_os _ _ _)
    (World.shaped_of_ZipB (by kernel_rfl) (by kernel_rfl)) (by kernel_rfl) (by kernel_rfl) (by kernel_rfl)
    (by rw [MakeChecks.laidMetH_plain _ _ _ (by kernel_rfl)];exact laidMet_laidAll _ (by kernel_rfl) (by kernel_rfl))) ?_
 intro W base args ds gs before hval0 hW _ hsz hL _
 have hval:∀ (j:Nat) t v,Tryz.f5.params[j]? =some t→args[j]? =some v→Value.okWide Tryz.prog W .any base t v:=hval0
 have hW':=hW
 obtain ⟨p,q,hA0,hV,rfl,_,_⟩:=hW
 have hA:DataW.TrodAll enc Tryz.prog W 0 (fun _=>true) true Tryz.f5.params.toList args.toList ds p:=hA0
 have hlt:∀ x∈p,x.block<W.heap.size:=fun x hx=>hW'.lt x (List.mem_append_left _ hx)
 rw [Tryz.params5] at hA hval
 have hargs:=fun (W':World) (hb:Below W.heap.size W W')=>below_trodAll laidOut hb (ts:=[33]) readable hA hlt
 obtain ⟨v0,d0,rfl,rfl,h0⟩:=trodAll_one hA
 obtain ⟨rfl,rfl⟩:=trodVars_none hV
 obtain ⟨k,lv,ts,N,hv0,b0,b1,hl0⟩:=open_argR (hval 0 33 v0 rfl rfl) h0
 subst hv0
 clear hA0
 simp only [List.append_nil] at hW'
 rw [MakeChecks.laidMetH_plain _ _ _ (by kernel_rfl)] at hL
 obtain ⟨tt,hsp⟩:=CE.laid_block hL listed (by rw [Lib.asciiSpaceTab_length];decide) gSpace (t:=95) (e:=5) (n:=256) (by kernel_rfl) (by kernel_rfl) (by kernel_rfl) (by kernel_rfl) (by kernel_rfl)
 refine (walk_raw k ts lv W hl0 ⟨⟨tt,hsp⟩,tabs hL⟩ hsp).mono fun e W' ⟨he,hg⟩=>?_
 subst he
 exact ⟨_,rfl,_,_,_,[],_,[],hW',trodAll_mk1 (shut_bool Tryz.underlying4 _),hargs W' hg,rfl,hg.frame _,fun h=>by cases h⟩
theorem over:Rows.ShapePacksSaid:=
 OpenClaim.holds_of_wide 5 Tryz.f5 rfl rfl rfl rfl rfl rfl rfl ⟨rfl,rfl,rfl,rfl,rfl⟩ rfl rfl rfl rfl rfl (by kernel_rfl) Tryz.func5 (by kernel_rfl)
  (of_decide_eq_true (by kernel_rfl)) (by unfold Func.isWrapper;first|(rw [if_pos (by decide+kernel)];kernel_rfl)|(rw [if_neg (by decide+kernel)];exact ⟨rfl,rfl⟩))
  (fun os started H enc _=>lifted os started H enc)
theorem card_holds:Rows.ShapePacksCardSaid:=
 Claim7.holds_tied_plain_at .later [] [.data,.listed,.data,.pinned] true (true, "cf9370b1b1ff14ebcb28339e0c8f1527599e341fedacd0fa5168e4c923b7411b") false over (fun _ h=>by cases h) (by kernel_rfl) (fun _ h=>by cases h) shapePacks_row_tie rfl ⟨rfl,rfl⟩ (by kernel_rfl) rfl
  (fun f fn hf hfn=>by
    obtain rfl:f=5:=Option.some.inj ((show Tryz.prog.funcNamed "longshore/longshorelaw07.ShapePacks" =some 5 by kernel_rfl).symm.trans hf)|>.symm
    obtain rfl:fn=Tryz.f5:=(Option.some.inj (Tryz.func5.symm.trans hfn)).symm
    exact ⟨by kernel_rfl,fun j t ht=>by
     rw [Tryz.params5] at ht
     have hm:t∈[33]:=by simpa using Array.mem_of_getElem? ht
     have hall:([33].all fun u=> !Tryz.prog.wantsStandIn u)=true:=by kernel_rfl
     exact (show Tryz.prog.wantsStandIn t=false by simpa using List.all_eq_true.1 hall t hm)⟩)
  (by kernel_rfl)
#print axioms card_holds
end Go.Proofs.YtfoiaiblggapeaaGreatDoor.shapePacks
