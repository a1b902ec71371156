/-
  Proved: the law longshorelaw07.ShapeBack returns true for any value and record; the tables of the library are as the program's text lays them (the card's tie). Conditions: none beside the row's own (laid).
-/
import Derived.Test.YtfoiaiblggapeaaDoorCards
import Derived.Test.YtfoiaiblggapeaaDoorTie
import Derived.Test.YtfoiaiblggapeaaDoorZSBB6
import Derived.ProofKit
import Derived.OpenShut
import Derived.LaidLaws
import Derived.Lay
import Derived.MakeChecks
import Derived.SevenTiedAt
import Derived.JoinedOf
import Derived.ChangeVars
import Derived.Lib.LaidU8T
set_option maxHeartbeats 40000000
set_option maxRecDepth 100000
namespace Go.Proofs.YtfoiaiblggapeaaDoor.shapeBack
open Go Go.ChangeShapes Go.WideShapes Go.ChangeAt Go.RowKit Nu Va Uc
section
attribute [-go_sem] Go.Instr.loadAt Go.Instr.storeAt
theorem walk_raw {N:Nat} (t:VT) (lv:Value) (k:Int) (l:List VT) (lv':Value) (w:World) (hf:t.Fine) (hl:LAt w.heap.size w N lv t.list) (hl':LAt w.heap.size w N lv' l) (hE:Env w)
 {tt:TypeId} (hsp:w.heap[0]? =some (.cells (Lib.asciiSpaceTab.map fun z=>Value.int .u8 z).toArray tt (0,0))):
 Calls Tryd.prog 5 #[t.agg lv,.agg #[.int .i64 k,lv']] w fun r w'=>r= .returned (.bool true)∧Below w.heap.size w w':=by
 obtain ⟨p,c,rfl⟩:=hl.slice
 obtain ⟨p',c',rfl⟩:=hl'.slice
 obtain ⟨nt,hnt⟩:∃ n,t.list.length=n:=⟨_,rfl⟩
 obtain ⟨nl,hnl⟩:∃ n,l.length=n:=⟨_,rfl⟩
 rw [hnt] at hl ⊢
 rw [hnl] at hl' ⊢
 obtain ⟨W1,hW1⟩:∃ W1,(w.alloc (.cells #[.int .i64 t.kind,.int .u64 t.num,.string t.text,.slice p nt c,.int .i64 t.elem] 26)).alloc (.cells #[.int .i64 k,.slice p' nl c'] 31)=W1:=⟨_,rfl⟩
 obtain ⟨x1,x2,hz1,hb1⟩:=two_boxes (cs:=t.cells (.slice p nt c)) (ds:=[.int .i64 k,.slice p' nl c']) hW1
 have HB1:=Lib.hid hb1
 have HLD:Hid (∀ v,Below W1.heap.size W1 v→(Instr.loadAt 26 (.pointer (some ⟨w.heap.size,0,none⟩))).run Tryd.prog v= .ok (t.agg (.slice p nt c)) v∧(Instr.loadAt 24 (.pointer (some ⟨w.heap.size+1,1,none⟩))).run Tryd.prog v= .ok (.slice p' nl c') v∧(Instr.loadAt 3 (.pointer (some ⟨w.heap.size+1,0,none⟩))).run Tryd.prog v= .ok (.int .i64 k) v∧(Instr.loadAt 31 (.pointer (some ⟨w.heap.size+1,0,none⟩))).run Tryd.prog v= .ok (.agg #[.int .i64 k,.slice p' nl c']) v):=fun v h=>
  ⟨wload_value (x1.below h (by omega)).1,wload_slice ((x2.below h (by omega)).cell (j:=1) rfl),pload_int ((x2.below h (by omega)).cell (j:=0) rfl),pload_rec (x2.below h (by omega))⟩
 have HO:Hid (∀ v,Below W1.heap.size W1 v→LAt v.heap.size v N (.slice p nt c) t.list∧LAt v.heap.size v N (.slice p' nl c') l∧Env v∧Below w.heap.size w v):=fun v h=>by
  have hb:=hb1.trans (h.mono (by omega))
  exact ⟨(hl.below hb).up hb.size,(hl'.below hb).up hb.size,hE.below hb,hb⟩
 have HF:=Lib.hid hf
 have HN:Hid (t.list.length=nt∧l.length=nl):=⟨hnt,hnl⟩
 have HG:=Lib.hid (great_any (N:=N) (B:=W1.heap.size) (t:=t) (v:=t.agg (.slice p nt c)) (w:=W1) ⟨hf,_,rfl,(hl.below hb1).up (by omega)⟩ (Nat.le_refl _))
 have HGA:Hid (∀ v,Below W1.heap.size W1 v→Calls Tryd.prog 12 #[.slice p' nl c'] v fun r w'=>r= .returned (.bool (decide (100000<wts l 0)))∧Below v.heap.size v w'):=fun v h=>greatAll_any (HO.out v h).2.1 (Nat.le_refl _)
 have hsp1:W1.heap[0]? =some (.cells (Lib.asciiSpaceTab.map fun z=>Value.int .u8 z).toArray tt (0,0)):=(hb1.block _ (Array.getElem?_eq_some_iff.1 hsp).1).trans hsp
 have HSP:Hid (∀ v,Below W1.heap.size W1 v→Calls Tryd.prog 8 #[] v fun e w'=>e= .returned (.bool true)∧Below v.heap.size v w'):=fun v h=>live_any ((h.block _ (Array.getElem?_eq_some_iff.1 hsp1).1).trans hsp1)
 obtain ⟨l2,_,_,_⟩:=HLD.out W1 (Below.refl _ _)
 obtain ⟨G,hG⟩:∃ G,decide (100000<wt t 0)=G:=⟨_,rfl⟩
 obtain ⟨G',hG'⟩:∃ G,decide (100000<wts l 0)=G:=⟨_,rfl⟩
 have HGG:Hid (decide (100000<wt t 0)=G∧decide (100000<wts l 0)=G'):=⟨hG,hG'⟩
 rw [hG] at HG
 rw [hG'] at HGA
 clear hl hl' hE hsp hsp1 hb1 x1 x2 hG hG' hf hnt hnl
 go_enter Tryd.func5,Tryd.ntmps5
 go_wp2_with (fail)
 clear hW1 l2
 refine HG.out.mono ?_
 rintro r w2 ⟨rfl,hb2⟩
 have HB2:=Lib.hid hb2
 obtain ⟨_,l3,_,_⟩:=HLD.out w2 hb2
 have HG3:=Lib.hid (HGA.out w2 hb2)
 clear hb2 HG HGA
 go_wp2_with (fail)
 clear l3
 refine HG3.out.mono ?_
 rintro r w3 ⟨rfl,hb3⟩
 have HB3:=Lib.hid (HB2.out.trans (hb3.mono HB2.out.size))
 have HS3:=Lib.hid (HSP.out w3 HB3.out)
 clear hb3 HG3 HSP
 go_wp2_with (fail)
 refine HS3.out.mono ?_
 rintro r V ⟨rfl,hbv⟩
 have HX:=Lib.hid (HB3.out.trans (hbv.mono HB3.out.size))
 clear hbv HS3
 cases G with
 |true=>
  go_wp2
  go_ret
  exact ⟨rfl,(HO.out V HX.out).2.2.2⟩
 |false=>
 cases G' with
 |true=>
  go_wp2
  go_ret
  exact ⟨rfl,(HO.out V HX.out).2.2.2⟩
 |false=>
 have HSM:Hid (nodes t≤100000∧nodesL l≤100000):=⟨by have h:=of_decide_eq_false HGG.out.1;have:=wt_nodes t 0 (by omega);omega,small_nodes (of_decide_eq_false HGG.out.2)⟩
 obtain ⟨m1,_,_,_⟩:=HLD.out V HX.out
 obtain ⟨y1,_,y3,_⟩:=HO.out V HX.out
 rcases un_split t with ⟨j,e,ha,he⟩|⟨k1,l1,ya,ha,hc,hp,hu,hs1,hs2⟩
 case' inl=>
  obtain ⟨i,hi⟩:∃ i:Int,(j:Int)=i:=⟨_,rfl⟩
  have S1:=Lib.hid (unpack_no y3 HF.out HN.out.1 y1 (by have:=HSM.out.1;omega) ha hi)
  have hcb:(e==0)=false:=by simp [he]
  clear ha he hi y1 y3 HB2 HB3
  go_wp2_with (fail)
  clear m1
  refine S1.out.mono ?_
  rintro r w4 ⟨hb4,rfl⟩
  obtain ⟨Wa4,hWa4⟩:∃ Wa,w4.alloc (.cells #[.int .i64 0,.slice none 0 0] 31)=Wa:=⟨_,rfl⟩
  obtain ⟨xa4,hza4,hba4⟩:=one_box (cs:=[.int .i64 0,.slice none 0 0]) hWa4
  obtain ⟨X4,hst4,_,bx4,hbb4,hzb4,_⟩:=rec_store xa4 rfl 0 none 0 0
  have nb4:Below w4.heap.size w4 X4:=hba4.trans hbb4
  have zb4:X4.heap.size=w4.heap.size+1:=by omega
  clear xa4 hza4 hba4 hbb4 hzb4
  have z4:=hb4.size
  have nx4:Below V.heap.size V X4:=hb4.trans (nb4.mono z4)
  have hw4:=HX.out.trans (nx4.mono HX.out.size)
  have HX4:=Lib.hid hw4
  clear S1 hb4 nb4 zb4 z4 nx4 hw4 HX bx4
  obtain ⟨_,_,_,m2⟩:=HLD.out X4 HX4.out
  go_wp2_with (fail)
  clear hWa4 hst4 hcb m2
  obtain ⟨X,hX⟩:∃ X,X4=X:=⟨_,rfl⟩
  rw [hX] at HX4 ⊢
  have HX:=HX4
  clear hX HX4
 case' inr=>
  obtain ⟨n1,hn1⟩:∃ n,l1.length=n:=⟨_,rfl⟩
  obtain ⟨n2,hn2⟩:∃ n,ya.list.length=n:=⟨_,rfl⟩
  have S1:=Lib.hid (unpack_ok y3 HF.out HN.out.1 y1 (by have:=HSM.out.1;omega) ha hn1)
  have HA:Hid (l1.length=n1∧ya.list.length=n2∧recC (readF 3) (packF 3) k1 l1=0∧packAns k1 l1 (recC (readF 3) (packF 3) k1 l1)= .ok ya∧unAns ya (checkT ya 1)= .ok (k1,l1)∧nodesL l1≤200026∧nodes ya≤400055):=⟨hn1,hn2,hc,hp,hu,by have:=HSM.out.1;omega,by have:=HSM.out.1;omega⟩
  clear ha hc hp hu hs1 hs2 hn1 hn2 y1 y3 HB2 HB3
  go_wp2_with (fail)
  clear m1
  refine S1.out.mono ?_
  rintro r w4 ⟨hb4,q1,d1,us1,rfl,o1⟩
  obtain ⟨Wa4,hWa4⟩:∃ Wa,w4.alloc (.cells #[.int .i64 0,.slice none 0 0] 31)=Wa:=⟨_,rfl⟩
  obtain ⟨xa4,hza4,hba4⟩:=one_box (cs:=[.int .i64 0,.slice none 0 0]) hWa4
  obtain ⟨X4,hst4,_,bx4,hbb4,hzb4,_⟩:=rec_store xa4 rfl k1 q1 n1 d1
  have nb4:Below w4.heap.size w4 X4:=hba4.trans hbb4
  have zb4:X4.heap.size=w4.heap.size+1:=by omega
  clear xa4 hza4 hba4 hbb4 hzb4
  have z4:=hb4.size
  have nx4:Below V.heap.size V X4:=hb4.trans (nb4.mono z4)
  have hw4:=HX.out.trans (nx4.mono HX.out.size)
  have HX4:=Lib.hid hw4
  have V1:Hid (Box X4 w4.heap.size [.int .i64 k1,.slice q1 n1 d1]∧LAt X4.heap.size X4 LV (.slice q1 n1 d1) l1∧w4.heap.size<X4.heap.size):=⟨bx4,(o1.below nb4).lat,by omega⟩
  clear S1 hb4 nb4 zb4 z4 nx4 hw4 HX bx4 o1
  have m2:=pload_rec V1.out.1
  have S2:=Lib.hid (check_ok (HO.out X4 HX4.out).2.2.1 HA.out.1 V1.out.2.1 (by have:=HA.out.2.2.2.2.2.1;omega) HA.out.2.2.1)
  go_wp2_with (fail)
  clear hWa4 hst4 m2
  refine S2.out.mono ?_
  rintro r w5 ⟨rfl,hb5⟩
  have HX5:=Lib.hid (HX4.out.trans (hb5.mono HX4.out.size))
  have V1b:Hid (Box w5 w4.heap.size [.int .i64 k1,.slice q1 n1 d1]∧LAt w5.heap.size w5 LV (.slice q1 n1 d1) l1∧w4.heap.size<w5.heap.size):=⟨V1.out.1.below hb5 V1.out.2.2,(V1.out.2.1.below hb5).up hb5.size,Nat.lt_of_lt_of_le V1.out.2.2 hb5.size⟩
  clear S2 hb5 V1
  have m3:=pload_rec V1b.out.1
  have S3:=Lib.hid (pack_ok (HO.out w5 HX5.out).2.2.1 HA.out.1 V1b.out.2.1 (by have:=HA.out.2.2.2.2.2.1;omega) HA.out.2.2.2.1 HA.out.2.1)
  go_wp2_with (fail)
  clear m3
  refine S3.out.mono ?_
  rintro r w6 ⟨hb6,q2,d2,us2,rfl,f2,o2⟩
  obtain ⟨Wa6,hWa6⟩:∃ Wa,w6.alloc (.cells #[.int .i64 0,.int .u64 0,.string ⟨#[]⟩,.slice none 0 0,.int .i64 0] 26)=Wa:=⟨_,rfl⟩
  obtain ⟨xa6,hza6,hba6⟩:=one_box (cs:=zeroT.cells (.slice none 0 0)) hWa6
  obtain ⟨X6,hst6,bx6,hbb6,hzb6⟩:=val_box xa6 rfl ya q2 n2 d2
  have nb6:Below w6.heap.size w6 X6:=hba6.trans hbb6
  have zb6:X6.heap.size=w6.heap.size+1:=by omega
  clear xa6 hza6 hba6 hbb6 hzb6
  have z6:=hb6.size
  have nx6:Below w5.heap.size w5 X6:=hb6.trans (nb6.mono z6)
  have HX6:=Lib.hid (HX5.out.trans (nx6.mono HX5.out.size))
  have V1c:Hid (Box X6 w4.heap.size [.int .i64 k1,.slice q1 n1 d1]∧LAt X6.heap.size X6 LV (.slice q1 n1 d1) l1∧w4.heap.size<X6.heap.size):=⟨V1b.out.1.below nx6 V1b.out.2.2,(V1b.out.2.1.below nx6).up nx6.size,Nat.lt_of_lt_of_le V1b.out.2.2 nx6.size⟩
  have V2:Hid (ya.Fine∧LAt X6.heap.size X6 LV (.slice q2 n2 d2) ya.list):=⟨f2,(o2.below nb6).lat⟩
  have m4:=wload_value bx6.1
  have S4:=Lib.hid (unpack_ok (HO.out X6 HX6.out).2.2.1 f2 HA.out.2.1 V2.out.2 (by have:=HA.out.2.2.2.2.2.2;omega) HA.out.2.2.2.2.1 HA.out.1)
  clear S3 hb6 nb6 zb6 z6 nx6 V1b f2 o2 bx6
  go_wp2_with (fail)
  clear hWa6 hst6 m4
  refine S4.out.mono ?_
  rintro r w7 ⟨hb7,q3,d3,us3,rfl,o3⟩
  obtain ⟨Wa7,hWa7⟩:∃ Wa,w7.alloc (.cells #[.int .i64 0,.slice none 0 0] 31)=Wa:=⟨_,rfl⟩
  obtain ⟨xa7,hza7,hba7⟩:=one_box (cs:=[.int .i64 0,.slice none 0 0]) hWa7
  obtain ⟨X7,hst7,_,bx7,hbb7,hzb7,_⟩:=rec_store xa7 rfl k1 q3 n1 d3
  have nb7:Below w7.heap.size w7 X7:=hba7.trans hbb7
  have zb7:X7.heap.size=w7.heap.size+1:=by omega
  clear xa7 hza7 hba7 hbb7 hzb7
  have z7:=hb7.size
  have nx7:Below X6.heap.size X6 X7:=hb7.trans (nb7.mono z7)
  have HX7:=Lib.hid (HX6.out.trans (nx7.mono HX6.out.size))
  have V1d:Hid (Box X7 w4.heap.size [.int .i64 k1,.slice q1 n1 d1]∧LAt X7.heap.size X7 LV (.slice q1 n1 d1) l1):=⟨V1c.out.1.below nx7 V1c.out.2.2,(V1c.out.2.1.below nx7).up nx7.size⟩
  have V3:Hid (LAt X7.heap.size X7 LV (.slice q3 n1 d3) l1):=(o3.below nb7).lat
  have m5:=pload_rec V1d.out.1
  have m6:=pload_rec bx7
  have S5:Hid (Calls Tryd.prog 16 #[.agg #[.int .i64 k1,.slice q1 n1 d1],.agg #[.int .i64 k1,.slice q3 n1 d3]] X7 fun r w'=>r= .returned (.bool true)∧Below X7.heap.size X7 w'):=by
   have h1:=V1d.out.2
   have h2:=V3.out
   rw [←HA.out.1] at h1 h2 ⊢
   exact sameRec_any h1 h2
  clear S4 hb7 nb7 zb7 z7 nx7 V1c o3 bx7 HX4 HX5 HX6
  go_wp2_with (fail)
  clear hWa7 hst7 m5 m6
  refine S5.out.mono ?_
  rintro r X ⟨rfl,hb8⟩
  have HX:=Lib.hid (HX7.out.trans (hb8.mono HX7.out.size))
  clear S5 hb8 V1d V3 V2 HX7 HA
  obtain ⟨_,_,_,m7⟩:=HLD.out X HX.out
  go_wp2_with (fail)
  clear m7
 all_goals
  obtain ⟨_,y2,y3,_⟩:=HO.out X HX.out
  rcases pk_split k l with ⟨e9,hp,he⟩|⟨yb,l9,hc,hp,hyp,hu,hll,hpp,hs1,hs2⟩
  ·have S6:=Lib.hid (pack_no y3 HN.out.2 y2 (by have:=HSM.out.2;omega) hp)
   have hcb:(e9 !=0)=true:=by simp [he]
   clear hp he y2 y3
   refine S6.out.mono ?_
   rintro r w9 ⟨hb9,rfl⟩
   obtain ⟨Wa9,hWa9⟩:∃ Wa,w9.alloc (.cells #[.int .i64 0,.int .u64 0,.string ⟨#[]⟩,.slice none 0 0,.int .i64 0] 26)=Wa:=⟨_,rfl⟩
   obtain ⟨xa9,hza9,hba9⟩:=one_box (cs:=zeroT.cells (.slice none 0 0)) hWa9
   obtain ⟨X9,hst9,bx9,hbb9,hzb9⟩:=val_box xa9 rfl zeroT none 0 0
   have nb9:Below w9.heap.size w9 X9:=hba9.trans hbb9
   have zb9:X9.heap.size=w9.heap.size+1:=by omega
   clear xa9 hza9 hba9 hbb9 hzb9
   replace hst9:(Instr.storeAt 26 (.pointer (some ⟨w9.heap.size,0,none⟩)) (.agg #[.int .i64 0,.int .u64 0,.string ⟨#[]⟩,.slice none 0 0,.int .i64 0])).run Tryd.prog Wa9= .ok () X9:=hst9
   have z9:=hb9.size
   have nx9:Below X.heap.size X X9:=hb9.trans (nb9.mono z9)
   have hw9:=HX.out.trans (nx9.mono HX.out.size)
   have HX9:=Lib.hid hw9
   have V9:=Lib.hid bx9
   clear S6 hb9 nb9 zb9 z9 nx9 hw9 bx9
   have m8:=pload_int (V9.out.cell (j:=0) rfl)
   have m9:=wload_slice (V9.out.cell (j:=3) rfl)
   go_wp2
   go_ret
   exact ⟨by simp,(HO.out X9 HX9.out).2.2.2⟩
  ·obtain ⟨n9,hn9⟩:∃ n,yb.list.length=n:=⟨_,rfl⟩
   have S6:=Lib.hid (pack_ok y3 HN.out.2 y2 (by have:=HSM.out.2;omega) hp hn9)
   have HA:Hid (l9.length=nl∧yb.list.length=n9∧unAns yb (checkT yb 1)= .ok (k,l9)∧packAns k l9 (recC (readF 3) (packF 3) k l9)= .ok yb∧nodesL l9≤400032∧nodes yb≤200003):=⟨hll.trans HN.out.2,hn9,hu,hpp,by have:=HSM.out.2;omega,by have:=HSM.out.2;omega⟩
   clear hc hp hyp hu hll hpp hs1 hs2 hn9 y2 y3
   refine S6.out.mono ?_
   rintro r w9 ⟨hb9,q1,d1,us1,rfl,f1,o1⟩
   obtain ⟨Wa9,hWa9⟩:∃ Wa,w9.alloc (.cells #[.int .i64 0,.int .u64 0,.string ⟨#[]⟩,.slice none 0 0,.int .i64 0] 26)=Wa:=⟨_,rfl⟩
   obtain ⟨xa9,hza9,hba9⟩:=one_box (cs:=zeroT.cells (.slice none 0 0)) hWa9
   obtain ⟨X9,hst9,bx9,hbb9,hzb9⟩:=val_box xa9 rfl yb q1 n9 d1
   have nb9:Below w9.heap.size w9 X9:=hba9.trans hbb9
   have zb9:X9.heap.size=w9.heap.size+1:=by omega
   clear xa9 hza9 hba9 hbb9 hzb9
   have z9:=hb9.size
   have nx9:Below X.heap.size X X9:=hb9.trans (nb9.mono z9)
   have hw9:=HX.out.trans (nx9.mono HX.out.size)
   have HX9:=Lib.hid hw9
   have V1:Hid (Box X9 w9.heap.size (yb.cells (.slice q1 n9 d1))∧LAt X9.heap.size X9 LV (.slice q1 n9 d1) yb.list∧yb.Fine∧w9.heap.size<X9.heap.size):=⟨bx9,(o1.below nb9).lat,f1,by omega⟩
   have m8:=wload_value V1.out.1.1
   have S7:=Lib.hid (unpack_ok (HO.out X9 HX9.out).2.2.1 f1 HA.out.2.1 V1.out.2.1 (by have:=HA.out.2.2.2.2.2;omega) HA.out.2.2.1 HA.out.1)
   clear S6 hb9 nb9 zb9 z9 nx9 hw9 bx9 f1 o1 HX
   go_wp2_with (fail)
   clear hWa9 hst9 m8
   refine S7.out.mono ?_
   rintro r w10 ⟨hb10,q2,d2,us2,rfl,o2⟩
   obtain ⟨Wa10,hWa10⟩:∃ Wa,w10.alloc (.cells #[.int .i64 0,.slice none 0 0] 31)=Wa:=⟨_,rfl⟩
   obtain ⟨xa10,hza10,hba10⟩:=one_box (cs:=[.int .i64 0,.slice none 0 0]) hWa10
   obtain ⟨X10,hst10,_,bx10,hbb10,hzb10,_⟩:=rec_store xa10 rfl k q2 nl d2
   have nb10:Below w10.heap.size w10 X10:=hba10.trans hbb10
   have zb10:X10.heap.size=w10.heap.size+1:=by omega
   clear xa10 hza10 hba10 hbb10 hzb10
   have z10:=hb10.size
   have nx10:Below X9.heap.size X9 X10:=hb10.trans (nb10.mono z10)
   have HX10:=Lib.hid (HX9.out.trans (nx10.mono HX9.out.size))
   have V1b:Hid (Box X10 w9.heap.size (yb.cells (.slice q1 n9 d1))∧LAt X10.heap.size X10 LV (.slice q1 n9 d1) yb.list∧w9.heap.size<X10.heap.size):=⟨V1.out.1.below nx10 V1.out.2.2.2,(V1.out.2.1.below nx10).up nx10.size,Nat.lt_of_lt_of_le V1.out.2.2.2 nx10.size⟩
   have V2:Hid (Box X10 w10.heap.size [.int .i64 k,.slice q2 nl d2]∧LAt X10.heap.size X10 LV (.slice q2 nl d2) l9∧w10.heap.size<X10.heap.size):=⟨bx10,(o2.below nb10).lat,by omega⟩
   have m9:=pload_rec V2.out.1
   have S8:=Lib.hid (pack_ok (HO.out X10 HX10.out).2.2.1 HA.out.1 V2.out.2.1 (by have:=HA.out.2.2.2.2.1;omega) HA.out.2.2.2.1 HA.out.2.1)
   have YF:Hid yb.Fine:=V1.out.2.2.1
   clear S7 hb10 nb10 zb10 z10 nx10 bx10 o2 V1
   go_wp2_with (fail)
   clear hWa10 hst10 m9
   refine S8.out.mono ?_
   rintro r w11 ⟨hb11,q3,d3,us3,rfl,f3,o3⟩
   obtain ⟨Wa11,hWa11⟩:∃ Wa,w11.alloc (.cells #[.int .i64 0,.int .u64 0,.string ⟨#[]⟩,.slice none 0 0,.int .i64 0] 26)=Wa:=⟨_,rfl⟩
   obtain ⟨xa11,hza11,hba11⟩:=one_box (cs:=zeroT.cells (.slice none 0 0)) hWa11
   obtain ⟨X11,hst11,bx11,hbb11,hzb11⟩:=val_box xa11 rfl yb q3 n9 d3
   have nb11:Below w11.heap.size w11 X11:=hba11.trans hbb11
   have zb11:X11.heap.size=w11.heap.size+1:=by omega
   clear xa11 hza11 hba11 hbb11 hzb11
   have z11:=hb11.size
   have nx11:Below X10.heap.size X10 X11:=hb11.trans (nb11.mono z11)
   have HX11:=Lib.hid (HX10.out.trans (nx11.mono HX10.out.size))
   have V1c:Hid (Box X11 w9.heap.size (yb.cells (.slice q1 n9 d1))∧LAt X11.heap.size X11 LV (.slice q1 n9 d1) yb.list):=⟨V1b.out.1.below nx11 V1b.out.2.2,(V1b.out.2.1.below nx11).up nx11.size⟩
   have V2b:Hid (Box X11 w10.heap.size [.int .i64 k,.slice q2 nl d2]∧w10.heap.size<X11.heap.size):=⟨V2.out.1.below nx11 V2.out.2.2,Nat.lt_of_lt_of_le V2.out.2.2 nx11.size⟩
   have V3:Hid (LAt X11.heap.size X11 LV (.slice q3 n9 d3) yb.list):=(o3.below nb11).lat
   have m10:=wload_value V1c.out.1.1
   have m11:=wload_value bx11.1
   have S9:Hid (Calls Tryd.prog 17 #[yb.agg (.slice q1 n9 d1),yb.agg (.slice q3 n9 d3)] X11 fun r w'=>r= .returned (.bool true)∧Below X11.heap.size X11 w'):=by
    have:=equal_any (N:=LV) (t:=yb) (t':=yb) (v:=yb.agg (.slice q1 n9 d1)) (v':=yb.agg (.slice q3 n9 d3)) ⟨YF.out,_,rfl,V1c.out.2⟩ ⟨YF.out,_,rfl,V3.out⟩ (Nat.le_refl _)
    rw [eqT_self] at this
    exact this
   clear S8 hb11 nb11 zb11 z11 nx11 bx11 f3 o3 V1b V2
   go_wp2_with (fail)
   clear hWa11 hst11 m10 m11
   refine S9.out.mono ?_
   rintro r w12 ⟨rfl,hb12⟩
   have HX12:=Lib.hid (HX11.out.trans (hb12.mono HX11.out.size))
   have V2c:=V2b.out.1.below hb12 V2b.out.2
   have m12:=pload_int (V2c.cell (j:=0) rfl)
   have m13:=wload_slice (V2c.cell (j:=1) rfl)
   obtain ⟨_,m14,m15,_⟩:=HLD.out w12 HX12.out
   clear S9 hb12 V2c V2b V1c V3
   go_wp2
   go_ret
   exact ⟨by simp,(HO.out w12 HX12.out).2.2.2⟩
end
theorem readable:∀ t∈[26,31],Tryd.prog.readableRec t=true∧t<Tryd.prog.types.size:=by
 intro t ht
 simp only [List.mem_cons,List.not_mem_nil,or_false] at ht
 rcases ht with rfl|rfl
 ·exact ⟨by kernel_rfl,of_decide_eq_true (by kernel_rfl)⟩
 ·exact ⟨by kernel_rfl,of_decide_eq_true (by kernel_rfl)⟩
theorem own:ownKnob Tryd.prog.godebug=none:=by kernel_rfl
theorem gSpace:Tryd.prog.globalNamed "strings.asciiSpace" =some 0:=by kernel_rfl
theorem spaceData:(Rows.laid_strings_asciiSpace:DataW Unit)=Lib.tabData .u8 Lib.asciiSpaceTab:=by kernel_rfl
theorem listed:("strings.asciiSpace",Lib.tabData .u8 Lib.asciiSpaceTab)∈Rows.shapeBackRow.laid:=by
 rw [←spaceData]
 exact List.Mem.tail _ (List.Mem.tail _ (List.Mem.head _))
theorem dataF:(Rows.laid_unicode_utf8_first:DataW Unit)=Lib.firstData:=by kernel_rfl
theorem dataA:(Rows.laid_unicode_utf8_acceptRanges:DataW Unit)=Lib.acceptData:=by kernel_rfl
theorem listF:("unicode/utf8.first",Lib.firstData)∈Rows.shapeBackRow.laid:=by
 rw [←dataF]
 exact .tail _ (.tail _ (.tail _ (.head _)))
theorem listA:("unicode/utf8.acceptRanges",Lib.acceptData)∈Rows.shapeBackRow.laid:=by
 rw [←dataA]
 exact .head _
theorem tabs {W:World} (hL:laidMet Tryd.prog Rows.shapeBackRow.laid W):Tabs W:=
 utf8Tabs_of_readsT (ρ:=Tryd.dec197_ren) {Tryd.dec197 with} ⟨by kernel_rfl,by kernel_rfl,by kernel_rfl,by kernel_rfl,by kernel_rfl,by kernel_rfl,by kernel_rfl⟩ (Lib.laidMet.reads hL listF) (Lib.laidMet.reads hL listA)
theorem lifted (os:Os) (started:os.Started) (H:Type) (enc:TypeId×Value→H):
 ReturnsInHanded {} Tryd.checked os 5 .any (fun w args=>(Rows.shapeBackSpec.pre enc Tryd.prog Tryd.f5 Rows.shapeBackRow.domain false w args∧laidMetH Tryd.prog Rows.shapeBackRow.laid w)∧sizedMet enc Tryd.prog Tryd.f5 (OpenSpec.ofChange Rows.shapeBackSpec) false w args)
  (Rows.shapeBackSpec.post enc Tryd.prog Tryd.f5 false true false false):=by
 refine returnsInHanded_of_change_and (C:=Tryd.checked) (X:=fun w _=>laidMetH Tryd.prog Rows.shapeBackRow.laid w) (fun _ _ _ hh h=>h.of_heap hh) own started (by kernel_rfl) Tryd.func5
  (ChangeSpec.witness_shaped (enc:=enc) (C:=Tryd.checked) (os:=os) (X:=fun w _=>laidMetH Tryd.prog Rows.shapeBackRow.laid w) false (World.laidAll Tryd.prog os Rows.shapeBackRow.laid) #[.agg #[.int .i64 0,.int .u64 0,.string ⟨#[]⟩,.slice none 0 0,.int .i64 0],.agg #[.int .i64 0,.slice none 0 0]] 8 (World.laidAll_os _ _ _)
    (World.shaped_of_ZipB (by kernel_rfl) (by kernel_rfl)) (by kernel_rfl) (by kernel_rfl) (by kernel_rfl)
    (by rw [MakeChecks.laidMetH_plain _ _ _ (by kernel_rfl)];exact laidMet_laidAll _ (by kernel_rfl) (by kernel_rfl))) ?_
 intro W base args ds gs before hval0 hW _ hsz hL _
 have hval:∀ (j:Nat) t v,Tryd.f5.params[j]? =some t→args[j]? =some v→Value.okWide Tryd.prog W .any base t v:=hval0
 have hW':=hW
 obtain ⟨p,q,hA0,hV,rfl,_,_⟩:=hW
 have hA:DataW.TrodAll enc Tryd.prog W 0 (fun _=>true) true Tryd.f5.params.toList args.toList ds p:=hA0
 have hlt:∀ x∈p,x.block<W.heap.size:=fun x hx=>hW'.lt x (List.mem_append_left _ hx)
 rw [Tryd.params5] at hA hval
 have hargs:=fun (W':World) (hb:Below W.heap.size W W')=>below_trodAll laidOut hb (ts:=[26,31]) readable hA hlt
 obtain ⟨v0,v1,d0,d1,p0,p1,rfl,rfl,rfl,h0,h1⟩:=trodAll_two hA
 obtain ⟨rfl,rfl⟩:=trodVars_none hV
 obtain ⟨N0,t,hft,lv,hv0,hl0⟩:=open_arg (hval 0 26 v0 rfl rfl) h0
 obtain ⟨k,lv',ts,N1,hv1,b0,b1,hl1⟩:=open_argR (hval 1 31 v1 rfl rfl) h1
 subst hv0 hv1
 clear hA0
 simp only [List.append_nil] at hW'
 rw [MakeChecks.laidMetH_plain _ _ _ (by kernel_rfl)] at hL
 obtain ⟨tt,hsp⟩:=CE.laid_block hL listed (by rw [Lib.asciiSpaceTab_length];decide) gSpace (t:=87) (e:=5) (n:=256) (by kernel_rfl) (by kernel_rfl) (by kernel_rfl) (by kernel_rfl) (by kernel_rfl)
 refine (walk_raw (N:=N0+N1) t lv k ts lv' W hft (hl0.mono (Nat.le_add_right _ _)) (hl1.mono (Nat.le_add_left _ _)) ⟨⟨tt,hsp⟩,tabs hL⟩ hsp).mono fun e W' ⟨he,hg⟩=>?_
 subst he
 exact ⟨_,rfl,_,_,_,[],_,[],hW',trodAll_mk1 (shut_bool Tryd.underlying4 _),hargs W' hg,rfl,hg.frame _,fun h=>by cases h⟩
theorem over:Rows.ShapeBackSaid:=
 OpenClaim.holds_of_wide 5 Tryd.f5 rfl rfl rfl rfl rfl rfl rfl ⟨rfl,rfl,rfl,rfl,rfl⟩ rfl rfl rfl rfl rfl (by kernel_rfl) Tryd.func5 (by kernel_rfl)
  (of_decide_eq_true (by kernel_rfl)) (by unfold Func.isWrapper;first|(rw [if_pos (by decide+kernel)];kernel_rfl)|(rw [if_neg (by decide+kernel)];exact ⟨rfl,rfl⟩))
  (fun os started H enc _=>lifted os started H enc)
theorem card_holds:Rows.ShapeBackCardSaid:=
 Claim7.holds_tied_plain_at .later [] [.data,.listed,.data,.pinned] true (true, "aa7d4d90d39d56e74064de7aadf4df16557b048d04d44f7824a2a011b39cc821") false over (fun _ h=>by cases h) (by kernel_rfl) (fun _ h=>by cases h) shapeBack_row_tie rfl ⟨rfl,rfl⟩ (by kernel_rfl) rfl
  (fun f fn hf hfn=>by
    obtain rfl:f=5:=Option.some.inj ((show Tryd.prog.funcNamed "longshore/longshorelaw07.ShapeBack" =some 5 by kernel_rfl).symm.trans hf)|>.symm
    obtain rfl:fn=Tryd.f5:=(Option.some.inj (Tryd.func5.symm.trans hfn)).symm
    exact ⟨by kernel_rfl,fun j t ht=>by
     rw [Tryd.params5] at ht
     have hm:t∈[26,31]:=by simpa using Array.mem_of_getElem? ht
     have hall:([26,31].all fun u=> !Tryd.prog.wantsStandIn u)=true:=by kernel_rfl
     exact (show Tryd.prog.wantsStandIn t=false by simpa using List.all_eq_true.1 hall t hm)⟩)
  (by kernel_rfl)
#print axioms card_holds
end Go.Proofs.YtfoiaiblggapeaaDoor.shapeBack
