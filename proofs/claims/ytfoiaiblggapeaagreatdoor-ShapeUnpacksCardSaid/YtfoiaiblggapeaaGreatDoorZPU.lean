/-
  The law ShapeUnpacks and its card. Conditions: the row's own (laid).
-/
import Derived.Test.YtfoiaiblggapeaaGreatDoorCards
import Derived.Test.YtfoiaiblggapeaaGreatDoorTie
import Derived.Test.YtfoiaiblggapeaaGreatDoorZPUC1
import Derived.ProofKit
import Derived.OpenShut
import Derived.LaidLaws
import Derived.Lay
import Derived.MakeChecks
import Derived.SevenTiedAt
import Derived.JoinedOf
import Derived.ChangeVars
import Derived.Lib.LaidU8T
set_option maxHeartbeats 40000000
set_option maxRecDepth 100000
namespace Go.Proofs.YtfoiaiblggapeaaGreatDoor.shapeUnpacks
open Go Go.ChangeShapes Go.WideShapes Go.ChangeAt Go.RowKit Nu Va Uc
section
attribute [-go_sem] Go.Instr.loadAt Go.Instr.storeAt
theorem wraw {N:Nat} (t:VT) (lv:Value) (w:World) (hf:t.Fine) (hl:LAt w.heap.size w N lv t.list) (hE:Env w)
 {tt:TypeId} (hsp:w.heap[0]? =some (.cells (Lib.asciiSpaceTab.map fun z=>Value.int .u8 z).toArray tt (0,0))):
 Calls Tryz.prog 6 #[t.agg lv] w fun r w'=>r= .returned (.bool true)∧Below w.heap.size w w':=by
 obtain ⟨p,c,rfl⟩:=hl.slice
 obtain ⟨W1,hW1⟩:∃ W1,w.alloc (.cells #[.int .i64 t.kind,.int .u64 t.num,.string t.text,.slice p t.list.length c,.int .i64 t.elem] 42)=W1:=⟨_,rfl⟩
 obtain ⟨x1,hz1,hb1⟩:=one_box (cs:=t.cells (.slice p t.list.length c)) hW1
 have HB1:=Lib.hid hb1
 have HLD:Hid (∀ v,Below W1.heap.size W1 v→(Instr.loadAt 42 (.pointer (some ⟨w.heap.size,0,none⟩))).run Tryz.prog v= .ok (t.agg (.slice p t.list.length c)) v):=fun v h=>wload_value (x1.below h (by omega)).1
 have HO:Hid (∀ v,Below w.heap.size w v→LAt w.heap.size v N (.slice p t.list.length c) t.list∧Env v):=fun v h=>⟨hl.below h,hE.below h⟩
 have HF:=Lib.hid hf
 have HG:=Lib.hid (great_any (N:=N) (B:=W1.heap.size) (t:=t) (v:=t.agg (.slice p t.list.length c)) (w:=W1) ⟨hf,_,rfl,(hl.below hb1).up (by omega)⟩ (Nat.le_refl _))
 have hsp1:W1.heap[0]? =some (.cells (Lib.asciiSpaceTab.map fun z=>Value.int .u8 z).toArray tt (0,0)):=(hb1.block _ (Array.getElem?_eq_some_iff.1 hsp).1).trans hsp
 have HSP:Hid (∀ v,Below W1.heap.size W1 v→Calls Tryz.prog 7 #[] v fun e w'=>e= .returned (.bool true)∧Below v.heap.size v w'):=fun v h=>live_any ((h.block _ (Array.getElem?_eq_some_iff.1 hsp1).1).trans hsp1)
 have l2:=HLD.out W1 (Below.refl _ _)
 obtain ⟨G,hG⟩:∃ G,decide (100000<wt t 0)=G:=⟨_,rfl⟩
 have HGG:=Lib.hid hG
 rw [hG] at HG
 clear hl hE hsp hsp1 hb1 x1 hG hf
 go_enter Tryz.func6,Tryz.ntmps6
 go_wp2_with (fail)
 clear hW1 l2
 refine HG.out.mono ?_
 rintro r w2 ⟨rfl,hb2⟩
 have HB2:=Lib.hid hb2
 have z2:=hb2.size
 clear hb2 HG
 cases G with
 |true=>
  go_wp2
  go_ret
  exact ⟨rfl,HB1.out.trans (HB2.out.mono (by omega))⟩
 |false=>
 have hsm:¬100000<wt t 0:=of_decide_eq_false HGG.out
 have HSM:Hid (Sms t.list∧nodes t≤100000):=⟨Sms.one (n:=0) (by omega),by have:=wt_nodes t 0 (by omega);omega⟩
 clear hsm
 go_wp2_with (fail)
 refine (HSP.out w2 HB2.out).mono ?_
 rintro r V ⟨rfl,hbv⟩
 have HBV:=Lib.hid (HB2.out.trans (hbv.mono z2))
 have zV:=HBV.out.size
 have hbwV:Below w.heap.size w V:=HB1.out.trans (HBV.out.mono (by omega))
 have m1:=HLD.out V HBV.out
 have S0:=Lib.hid (lent_of (lents N) w.heap.size t.kind t.num t.text t.elem t.list (.slice p t.list.length c) V (HO.out V hbwV).1 HSM.out.1 hbwV.size)
 clear hbv HSP hbwV
 go_wp2_with (fail)
 clear m1
 refine S0.out.mono ?_
 rintro r w6 ⟨v6,rfl,hl6,hb6⟩
 obtain ⟨b6,e6⟩:=hl6.form
 obtain ⟨q6,c6,rfl⟩:∃ q c,v6= .slice q t.list.length c:=⟨_,_,e6⟩
 obtain ⟨Wl,hWl⟩:∃ Wl,w6.alloc (.cells #[.int .i64 0,.int .u64 0,.string ⟨#[]⟩,.slice none 0 0,.int .i64 0] 42)=Wl:=⟨_,rfl⟩
 obtain ⟨xl,hzl,hbl⟩:=one_box (cs:=zeroT.cells (.slice none 0 0)) hWl
 obtain ⟨X8,hstl,bxl,hbbl,hzbl⟩:=val_box xl rfl t q6 t.list.length c6
 have nbl:Below w6.heap.size w6 X8:=hbl.trans hbbl
 have z6:=hb6.size
 have zX:X8.heap.size=w6.heap.size+1:=by omega
 obtain ⟨lo,hlo⟩:∃ lo,V.heap.size=lo:=⟨_,rfl⟩
 obtain ⟨hi,hhi⟩:∃ hi,w6.heap.size=hi:=⟨_,rfl⟩
 have HL8:Hid (LentAt X8 N lo hi (.slice q6 t.list.length c6) t.list∧Box X8 w6.heap.size (t.cells (.slice q6 t.list.length c6))):=by
  rw [←hlo,←hhi]
  exact ⟨hl6.below (Nat.le_refl _) nbl,bxl⟩
 have hhl:hi≤X8.heap.size:=by omega
 have hll:w.heap.size≤lo:=by omega
 have HBX:Hid (Below W1.heap.size W1 X8):=HBV.out.trans ((hb6.trans (nbl.mono z6)).mono zV)
 have hzw:w.heap.size+1≤X8.heap.size:=by omega
 have HBW:=Lib.hid (HB1.out.trans (HBX.out.mono (by omega)))
 obtain ⟨a,ha⟩:∃ a,unAns t (checkT t 1)=a:=⟨_,rfl⟩
 obtain ⟨k,hk⟩:∃ k,recK a=k:=⟨_,rfl⟩
 obtain ⟨l,hl⟩:∃ l,recL a=l:=⟨_,rfl⟩
 obtain ⟨at_,hat⟩:∃ i,recI a=i:=⟨_,rfl⟩
 obtain ⟨e,he⟩:∃ e,recE a=e:=⟨_,rfl⟩
 obtain ⟨n,hn⟩:∃ n,l.length=n:=⟨_,rfl⟩
 have HY:Hid (nodesL l≤200213):=by
  show _≤_
  rw [←hl,←ha]
  have:=HSM.out.2
  have h2:=unans_small t (checkT t 1)
  omega
 have HUP:Hid (∀ v,Below X8.heap.size X8 v→(Instr.loadAt 42 (.pointer (some ⟨w6.heap.size,0,none⟩))).run Tryz.prog v= .ok (t.agg (.slice q6 t.list.length c6)) v∧Calls Tryz.prog 26 #[t.agg (.slice q6 t.list.length c6)] v fun r w'=>Below v.heap.size v w'∧∃ q d us,r= .returned (.tuple #[.agg #[.int .i64 k,.slice q n d],.int .i64 at_,.int .i64 e])∧OL w' LV (.slice q n d) l us∧Blk v.heap.size w'.heap.size us∧ApartV us):=fun v h=>by
  have hw:Below w.heap.size w v:=HBW.out.trans (h.mono (by omega))
  refine ⟨wload_value (HL8.out.2.below h (by omega)).1,?_⟩
  have:=recUnpack_any (N:=N) (B:=v.heap.size) t (.slice q6 t.list.length c6) v (HO.out v hw).2 HF.out ((HL8.out.1.below hhl h).lat (by have:=h.size;omega)) (Nat.le_refl _) (by have:=HSM.out.2;omega)
  refine this.mono fun r w' hans=>?_
  rw [ha] at hans
  have:=UnAns.get2 hans
  rw [hk,hl,hat,he,hn] at this
  exact this
 have HRP:Hid (∀ v,Below X8.heap.size X8 v→Calls Tryz.prog 27 #[t.agg (.slice p t.list.length c)] v fun r w'=>Below v.heap.size v w'∧∃ q d M,r= .returned (.tuple #[.agg #[.int .i64 k,.slice q n d],.int .i64 at_,.int .i64 e])∧LAtP (fun b=>b<w.heap.size∨v.heap.size≤b) w' M (.slice q n d) l):=fun v h=>by
  have hw:Below w.heap.size w v:=HBW.out.trans (h.mono (by omega))
  have:=(rref_any 3).1 (fun b=>b<w.heap.size) N t (.slice p t.list.length c) v (fun b hb=>Nat.lt_of_lt_of_le hb hw.size) (HO.out v hw).2 HF.out ((HO.out v hw).1.latP hw.size) (rkO_le _) (by have:=HSM.out.2;omega)
  refine this.mono fun r w' hans=>?_
  rw [unR_unAns,ha] at hans
  have:=RUnAns.get2 hans
  rw [hk,hl,hat,he,hn] at this
  exact this
 have HSR:Hid (∀ v q d q' d' M M',LAt v.heap.size v M (.slice q n d) l→LAt v.heap.size v M' (.slice q' n d') l→Calls Tryz.prog 28 #[.agg #[.int .i64 k,.slice q n d],.agg #[.int .i64 k,.slice q' n d']] v fun r w'=>r= .returned (.bool true)∧Below v.heap.size v w'):=fun v q d q' d' M M' h1 h2=>by
  rw [←hn] at h1 h2 ⊢
  exact sameRec_any (N:=M+M') (h1.mono (by omega)) (h2.mono (by omega))
 obtain ⟨m1,S1⟩:=HUP.out X8 (Below.refl _ _)
 have S1:=Lib.hid S1
 clear ha hk hl hat he hn hl6 hb6 e6 xl hzl hbl bxl hbbl hzbl nbl hlo hhi S0
 go_wp2_with (fail)
 clear m1 hWl hstl
 refine S1.out.mono ?_
 rintro r w9 ⟨hb9,q1,d1,us1,rfl,o1,k1,a1⟩
 obtain ⟨Wa9,hWa9⟩:∃ Wa,w9.alloc (.cells #[.int .i64 0,.slice none 0 0] 33)=Wa:=⟨_,rfl⟩
 obtain ⟨xa9,hza9,hba9⟩:=one_box (cs:=[.int .i64 0,.slice none 0 0]) hWa9
 obtain ⟨X9,hst9,_,bx9,hbb9,hzb9,_⟩:=rec_store xa9 rfl k q1 n d1
 have nb9:Below w9.heap.size w9 X9:=hba9.trans hbb9
 have zb9:X9.heap.size=w9.heap.size+1:=by omega
 clear xa9 hza9 hba9 hbb9 hzb9
 have z9:=hb9.size
 have hb89:Below X8.heap.size X8 X9:=hb9.trans (nb9.mono z9)
 have HB89:=Lib.hid hb89
 have V1:Hid (Box X9 w9.heap.size [.int .i64 k,.slice q1 n d1]∧OL X9 LV (.slice q1 n d1) l us1∧Blk X8.heap.size w9.heap.size us1∧ApartV us1):=⟨bx9,o1.below nb9,k1,a1⟩
 have m2:=HLD.out X9 (HBX.out.trans (hb89.mono (by have:=HBX.out.size;omega)))
 clear bx9 nb9 o1 k1 a1 hb9 hb89 S1
 go_wp2_with (fail)
 clear hWa9 hst9 m2
 refine (HRP.out X9 HB89.out).mono ?_
 rintro r w10 ⟨hb10,q2,d2,M2,rfl,o2⟩
 obtain ⟨Wa10,hWa10⟩:∃ Wa,w10.alloc (.cells #[.int .i64 0,.slice none 0 0] 33)=Wa:=⟨_,rfl⟩
 obtain ⟨xa10,hza10,hba10⟩:=one_box (cs:=[.int .i64 0,.slice none 0 0]) hWa10
 obtain ⟨X10,hst10,_,bx10,hbb10,hzb10,_⟩:=rec_store xa10 rfl k q2 n d2
 have nb10:Below w10.heap.size w10 X10:=hba10.trans hbb10
 have zb10:X10.heap.size=w10.heap.size+1:=by omega
 clear xa10 hza10 hba10 hbb10 hzb10
 have z10:=hb10.size
 have hbu:Below X9.heap.size X9 X10:=hb10.trans (nb10.mono z10)
 have HBq:=Lib.hid (HB89.out.trans (hbu.mono (by omega)))
 have V1b:Hid (Box X10 w9.heap.size [.int .i64 k,.slice q1 n d1]∧OL X10 LV (.slice q1 n d1) l us1):=⟨V1.out.1.below hbu (by omega),V1.out.2.1.below hbu⟩
 have V2:Hid (Box X10 w10.heap.size [.int .i64 k,.slice q2 n d2]∧LAtP (fun b=>b<w.heap.size∨X9.heap.size≤b) X10 M2 (.slice q2 n d2) l):=⟨bx10,o2.below nb10⟩
 have m3:=pload_rec V1b.out.1
 have m4:=pload_rec V2.out.1
 have S3:=Lib.hid (HSR.out X10 q1 d1 q2 d2 LV M2 V1b.out.2.lat V2.out.2.lat)
 clear bx10 nb10 o2 hb10 hbu
 go_wp2_with (fail)
 clear hWa10 hst10 m3 m4
 refine S3.out.mono ?_
 rintro r w11 ⟨rfl,hb11⟩
 have z11:=hb11.size
 have HBr:=Lib.hid (HBq.out.trans (hb11.mono (by omega)))
 have V1c:Hid (Box w11 w9.heap.size [.int .i64 k,.slice q1 n d1]∧OL w11 LV (.slice q1 n d1) l us1):=⟨V1b.out.1.below hb11 (by omega),V1b.out.2.below hb11⟩
 have V2b:Hid (Box w11 w10.heap.size [.int .i64 k,.slice q2 n d2]∧LAtP (fun b=>b<w.heap.size∨X9.heap.size≤b) w11 M2 (.slice q2 n d2) l):=⟨V2.out.1.below hb11 (by omega),V2.out.2.below hb11⟩
 obtain ⟨m5,S4⟩:=HUP.out w11 HBr.out
 have S4:=Lib.hid S4
 clear hb11 S3 V1b V2
 go_wp2_with (fail)
 clear m5
 refine S4.out.mono ?_
 rintro r w12 ⟨hb12,q3,d3,us3,rfl,o3,k3,a3⟩
 obtain ⟨Wa12,hWa12⟩:∃ Wa,w12.alloc (.cells #[.int .i64 0,.slice none 0 0] 33)=Wa:=⟨_,rfl⟩
 obtain ⟨xa12,hza12,hba12⟩:=one_box (cs:=[.int .i64 0,.slice none 0 0]) hWa12
 obtain ⟨X12,hst12,_,bx12,hbb12,hzb12,_⟩:=rec_store xa12 rfl k q3 n d3
 have nb12:Below w12.heap.size w12 X12:=hba12.trans hbb12
 have zb12:X12.heap.size=w12.heap.size+1:=by omega
 clear xa12 hza12 hba12 hbb12 hzb12
 have z12:=hb12.size
 have hbq:Below w11.heap.size w11 X12:=hb12.trans (nb12.mono z12)
 have HBs:=Lib.hid (HBr.out.trans (hbq.mono (by omega)))
 have V3:Hid (Box X12 w12.heap.size [.int .i64 k,.slice q3 n d3]∧OL X12 LV (.slice q3 n d3) l us3∧Blk w11.heap.size w12.heap.size us3∧ApartV us3):=⟨bx12,o3.below nb12,k3,a3⟩
 have V1d:Hid (Box X12 w9.heap.size [.int .i64 k,.slice q1 n d1]∧OL X12 LV (.slice q1 n d1) l us1):=⟨V1c.out.1.below hbq (by omega),V1c.out.2.below hbq⟩
 have V2c:Hid (Box X12 w10.heap.size [.int .i64 k,.slice q2 n d2]∧LAtP (fun b=>b<w.heap.size∨X9.heap.size≤b) X12 M2 (.slice q2 n d2) l):=⟨V2b.out.1.below hbq (by omega),V2b.out.2.below hbq⟩
 have HV:Hid (∀ v,Apart lo hi X12 v→Box v w9.heap.size [.int .i64 k,.slice q1 n d1]∧Box v w10.heap.size [.int .i64 k,.slice q2 n d2]∧Box v w12.heap.size [.int .i64 k,.slice q3 n d3]∧OL v LV (.slice q1 n d1) l us1∧LAt v.heap.size v M2 (.slice q2 n d2) l∧OL v LV (.slice q3 n d3) l us3∧X12.heap.size≤v.heap.size):=fun v h=>
  ⟨V1d.out.1.heap (h.block _ (by omega) (.inr (by omega))),V2c.out.1.heap (h.block _ (by omega) (.inr (by omega))),V3.out.1.heap (h.block _ (by omega) (.inr (by omega))),
    V1d.out.2.heap h.size fun u hu b hb=>h.block b (by have:=V1.out.2.2.1 u hu b hb;omega) (.inr (by have:=V1.out.2.2.1 u hu b hb;omega)),
    (V2c.out.2.heap h.size fun b hb hlt=>h.block b hlt (by rcases hb with h|h;exact .inl (by omega);exact .inr (by omega))).lat,
    V3.out.2.1.heap h.size fun u hu b hb=>h.block b (by have:=V3.out.2.2.1 u hu b hb;omega) (.inr (by have:=V3.out.2.2.1 u hu b hb;omega)),h.size⟩
 have hbz:Below w.heap.size w X12:=HBW.out.trans (HBs.out.mono (by omega))
 have S5:=Lib.hid (kept_of (kepts N) w.heap.size lo hi t.kind t.num t.text t.elem t.list (.slice q6 t.list.length c6) (.slice p t.list.length c) X12 (HL8.out.1.below hhl HBs.out) (HO.out X12 hbz).1 hll (by omega))
 have HBz:=Lib.hid hbz
 obtain ⟨m6,_⟩:=HUP.out X12 HBs.out
 have m7:=HLD.out X12 (HBX.out.trans (HBs.out.mono (by have:=HBX.out.size;omega)))
 clear bx12 nb12 o3 k3 a3 hb12 hbq hbz V1c V2b V1d V2c S4
 go_wp2_with (fail)
 clear hWa12 hst12 m6 m7
 refine S5.out.mono ?_
 rintro r w13 ⟨rfl,ha13⟩
 have HA13:=Lib.hid ha13
 obtain ⟨y1,y2,_,o1,o2,_,_⟩:=HV.out w13 ha13
 have m8:=pload_rec y1
 have m9:=pload_rec y2
 have S6:=Lib.hid (HSR.out w13 q1 d1 q2 d2 LV M2 o1.lat o2)
 clear ha13 S5 o1 o2 y1 y2
 go_wp2_with (fail)
 clear m8 m9
 refine S6.out.mono ?_
 rintro r w14 ⟨rfl,hb14⟩
 have HA14:=Lib.hid (HA13.out.trans (Apart.of_below hb14 (Nat.le_refl _)))
 obtain ⟨_,y2,y3,_,o2,o3,_⟩:=HV.out w14 HA14.out
 have m9:=pload_rec y2
 have m10:=pload_rec y3
 have S7:=Lib.hid (HSR.out w14 q3 d3 q2 d2 LV M2 o3.lat o2)
 clear hb14 S6 o2 o3 y2 y3
 go_wp2_with (fail)
 clear m9 m10
 refine S7.out.mono ?_
 rintro r w15 ⟨rfl,hb15⟩
 have HA15:=Lib.hid (HA14.out.trans (Apart.of_below hb15 (Nat.le_refl _)))
 have z15:=HA15.out.size
 obtain ⟨X15,hX15⟩:∃ X15,w15.alloc (.cells #[.slice none 0 0] 49)=X15:=⟨_,rfl⟩
 have hbk0:BookAt BKT X15 w15.heap.size (.slice none 0 0) []:=by rw [←hX15];exact book_new _ _
 have hbv5:Below w15.heap.size w15 X15:=by rw [←hX15];exact (Below.refl _ _).alloc (Nat.le_refl _) _
 have HAb:=Lib.hid (HA15.out.trans (Apart.of_below hbv5 (Nat.le_refl _)))
 obtain ⟨y1,_,_,o1,_,_,_⟩:=HV.out X15 HAb.out
 have m11:=wload_slice (y1.cell (j:=1) rfl)
 have hcount:=HY.out
 have S8:=Lib.hid (takes LV w15.heap.size (.slice none 0 0) (.slice q1 n d1) [] us1 l X15 hbk0 o1 (fun u hu b hb=>⟨Nat.zero_le _,by have:=(V1.out.2.2.1 u hu b hb).2;omega⟩) (by simp;omega))
 clear hb15 S7 o1 hbk0 hbv5 y1
 go_wp2_with (fail)
 clear hX15 m11
 refine S8.out.mono ?_
 rintro r w16 ⟨rfl,bv1,hbk1,hb16⟩
 have HA16:Hid (Apart lo hi X12 w16):=⟨hb16.os.trans HAb.out.os,hb16.tape.trans HAb.out.tape,hb16.output.trans HAb.out.output,Nat.le_trans HAb.out.size hb16.size,fun j hj ho=>(hb16.block j (by omega)).trans (HAb.out.block j hj ho)⟩
 obtain ⟨_,_,y3,_,_,o3,_⟩:=HV.out w16 HA16.out
 have m12:=wload_slice (y3.cell (j:=1) rfl)
 have hc1:us1.length≤200214:=by
  have:=ol_count V1.out.2.1
  omega
 have S9:=Lib.hid (takes LV w15.heap.size bv1 (.slice q3 n d3) ([]++us1) us3 l w16 hbk1 o3 (fun u hu b hb=>⟨Nat.zero_le _,by have:=(V3.out.2.2.1 u hu b hb).2;omega⟩) (by rw [List.nil_append];omega))
 clear S8 o3 hbk1 hb16 y3
 go_wp2_with (fail)
 clear m12
 refine S9.out.mono ?_
 rintro r w17 ⟨rfl,bv2,hbk2,hb17⟩
 have HA17:Hid (Apart lo hi X12 w17):=⟨hb17.os.trans HA16.out.os,hb17.tape.trans HA16.out.tape,hb17.output.trans HA16.out.output,Nat.le_trans HA16.out.size hb17.size,fun j hj ho=>(hb17.block j (by omega)).trans (HA16.out.block j hj ho)⟩
 have S10:Hid (Calls Tryz.prog 23 #[.pointer (some ⟨w15.heap.size,0,none⟩)] w17 fun r w'=>r= .returned (.bool true)∧(X8.heap.size≤w17.heap.size→Below X8.heap.size w17 w')):=by
  obtain ⟨_,_,_,o1,_,o3,_⟩:=HV.out w17 HA17.out
  have hc3:us3.length≤200214:=by have:=ol_count o3;omega
  refine bookOwned_any (N:=1000000000) hbk2 (fun u hu=>?_) (fun u hu b hb=>?_) ?_ (fun u hu p m c e=>?_) ⟨by omega,by omega⟩ (by rw [List.nil_append,List.length_append];omega)
  ·rw [List.nil_append] at hu
   rcases List.mem_append.1 hu with h|h
   ·exact o1.rows u h
   ·exact o3.rows u h
  ·rw [List.nil_append] at hu
   rcases List.mem_append.1 hu with h|h
   ·have:=V1.out.2.2.1 u h b hb;omega
   ·have:=V3.out.2.2.1 u h b hb;omega
  ·rw [List.nil_append]
   exact ApartV.append' V1.out.2.2.2 V3.out.2.2.2 V1.out.2.2.1 V3.out.2.2.1 (.inl (by omega))
  ·rw [List.nil_append] at hu
   rcases List.mem_append.1 hu with h|h
   ·have:=ol_rowlen o1 u h p m c e;omega
   ·have:=ol_rowlen o3 u h p m c e;omega
 clear S9 hbk2 hb17
 go_wp2_with (fail)
 refine S10.out.mono ?_
 rintro r w18 ⟨rfl,hb18⟩
 have HEND:Hid (Below w.heap.size w w18):=by
  have hz17:=HA17.out.size
  exact (HBz.out.trans (HA17.out.below hll HBz.out.size)).trans ((hb18 (by omega)).mono (by omega))
 clear S10 hb18
 go_wp2
 go_ret
 exact ⟨by simp,HEND.out⟩
end
theorem readable:∀ t∈[42],Tryz.prog.readableRec t=true∧t<Tryz.prog.types.size:=by
 intro t ht
 simp only [List.mem_cons,List.not_mem_nil,or_false] at ht
 subst ht
 exact ⟨by kernel_rfl,of_decide_eq_true (by kernel_rfl)⟩
theorem own:ownKnob Tryz.prog.godebug=none:=by kernel_rfl
theorem gSpace:Tryz.prog.globalNamed "strings.asciiSpace" =some 0:=by kernel_rfl
theorem spaceData:(Rows.laid_strings_asciiSpace:DataW Unit)=Lib.tabData .u8 Lib.asciiSpaceTab:=by kernel_rfl
theorem listed:("strings.asciiSpace",Lib.tabData .u8 Lib.asciiSpaceTab)∈Rows.shapeUnpacksRow.laid:=by
 rw [←spaceData]
 exact List.Mem.tail _ (List.Mem.tail _ (List.Mem.head _))
theorem dataF:(Rows.laid_unicode_utf8_first:DataW Unit)=Lib.firstData:=by kernel_rfl
theorem dataA:(Rows.laid_unicode_utf8_acceptRanges:DataW Unit)=Lib.acceptData:=by kernel_rfl
theorem listF:("unicode/utf8.first",Lib.firstData)∈Rows.shapeUnpacksRow.laid:=by
 rw [←dataF]
 exact .tail _ (.tail _ (.tail _ (.head _)))
theorem listA:("unicode/utf8.acceptRanges",Lib.acceptData)∈Rows.shapeUnpacksRow.laid:=by
 rw [←dataA]
 exact .head _
theorem tabs {W:World} (hL:laidMet Tryz.prog Rows.shapeUnpacksRow.laid W):Tabs W:=
 utf8Tabs_of_readsT (ρ:=Tryz.dec197_ren) {Tryz.dec197 with} ⟨by kernel_rfl,by kernel_rfl,by kernel_rfl,by kernel_rfl,by kernel_rfl,by kernel_rfl,by kernel_rfl⟩ (Lib.laidMet.reads hL listF) (Lib.laidMet.reads hL listA)
theorem lifted (os:Os) (started:os.Started) (H:Type) (enc:TypeId×Value→H):
 ReturnsInHanded {} Tryz.checked os 6 .any (fun w args=>(Rows.shapeUnpacksSpec.pre enc Tryz.prog Tryz.f6 Rows.shapeUnpacksRow.domain false w args∧laidMetH Tryz.prog Rows.shapeUnpacksRow.laid w)∧sizedMet enc Tryz.prog Tryz.f6 (OpenSpec.ofChange Rows.shapeUnpacksSpec) false w args)
  (Rows.shapeUnpacksSpec.post enc Tryz.prog Tryz.f6 false true false false):=by
 refine returnsInHanded_of_change_and (C:=Tryz.checked) (X:=fun w _=>laidMetH Tryz.prog Rows.shapeUnpacksRow.laid w) (fun _ _ _ hh h=>h.of_heap hh) own started (by kernel_rfl) Tryz.func6
  (ChangeSpec.witness_shaped (enc:=enc) (C:=Tryz.checked) (os:=os) (X:=fun w _=>laidMetH Tryz.prog Rows.shapeUnpacksRow.laid w) false (World.laidAll Tryz.prog os Rows.shapeUnpacksRow.laid) #[.agg #[.int .i64 0,.int .u64 0,.string ⟨#[]⟩,.slice none 0 0,.int .i64 0]] 8 (World.laidAll_os _ _ _)
    (World.shaped_of_ZipB (by kernel_rfl) (by kernel_rfl)) (by kernel_rfl) (by kernel_rfl) (by kernel_rfl)
    (by rw [MakeChecks.laidMetH_plain _ _ _ (by kernel_rfl)];exact laidMet_laidAll _ (by kernel_rfl) (by kernel_rfl))) ?_
 intro W base args ds gs before hval0 hW _ hsz hL _
 have hval:∀ (j:Nat) t v,Tryz.f6.params[j]? =some t→args[j]? =some v→Value.okWide Tryz.prog W .any base t v:=hval0
 have hW':=hW
 obtain ⟨p,q,hA0,hV,rfl,_,_⟩:=hW
 have hA:DataW.TrodAll enc Tryz.prog W 0 (fun _=>true) true Tryz.f6.params.toList args.toList ds p:=hA0
 have hlt:∀ x∈p,x.block<W.heap.size:=fun x hx=>hW'.lt x (List.mem_append_left _ hx)
 rw [Tryz.params6] at hA hval
 have hargs:=fun (W':World) (hb:Below W.heap.size W W')=>below_trodAll laidOut hb (ts:=[42]) readable hA hlt
 obtain ⟨v0,d0,rfl,rfl,h0⟩:=trodAll_one hA
 obtain ⟨rfl,rfl⟩:=trodVars_none hV
 obtain ⟨N,t,hft,lv,hv0,hl0⟩:=open_arg (hval 0 42 v0 rfl rfl) h0
 subst hv0
 clear hA0
 simp only [List.append_nil] at hW'
 rw [MakeChecks.laidMetH_plain _ _ _ (by kernel_rfl)] at hL
 obtain ⟨tt,hsp⟩:=CE.laid_block hL listed (by rw [Lib.asciiSpaceTab_length];decide) gSpace (t:=95) (e:=5) (n:=256) (by kernel_rfl) (by kernel_rfl) (by kernel_rfl) (by kernel_rfl) (by kernel_rfl)
 refine (wraw t lv W hft hl0 ⟨⟨tt,hsp⟩,tabs hL⟩ hsp).mono fun e W' ⟨he,hg⟩=>?_
 subst he
 exact ⟨_,rfl,_,_,_,[],_,[],hW',trodAll_mk1 (shut_bool Tryz.underlying4 _),hargs W' hg,rfl,hg.frame _,fun h=>by cases h⟩
theorem over:Rows.ShapeUnpacksSaid:=
 OpenClaim.holds_of_wide 6 Tryz.f6 rfl rfl rfl rfl rfl rfl rfl ⟨rfl,rfl,rfl,rfl,rfl⟩ rfl rfl rfl rfl rfl (by kernel_rfl) Tryz.func6 (by kernel_rfl)
  (of_decide_eq_true (by kernel_rfl)) (by unfold Func.isWrapper;first|(rw [if_pos (by decide+kernel)];kernel_rfl)|(rw [if_neg (by decide+kernel)];exact ⟨rfl,rfl⟩))
  (fun os started H enc _=>lifted os started H enc)
theorem card_holds:Rows.ShapeUnpacksCardSaid:=
 Claim7.holds_tied_plain_at .later [] [.data,.listed,.data,.pinned] true (true, "cf9370b1b1ff14ebcb28339e0c8f1527599e341fedacd0fa5168e4c923b7411b") false over (fun _ h=>by cases h) (by kernel_rfl) (fun _ h=>by cases h) shapeUnpacks_row_tie rfl ⟨rfl,rfl⟩ (by kernel_rfl) rfl
  (fun f fn hf hfn=>by
    obtain rfl:f=6:=Option.some.inj ((show Tryz.prog.funcNamed "longshore/longshorelaw07.ShapeUnpacks" =some 6 by kernel_rfl).symm.trans hf)|>.symm
    obtain rfl:fn=Tryz.f6:=(Option.some.inj (Tryz.func6.symm.trans hfn)).symm
    exact ⟨by kernel_rfl,fun j t ht=>by
     rw [Tryz.params6] at ht
     have hm:t∈[42]:=by simpa using Array.mem_of_getElem? ht
     have hall:([42].all fun u=> !Tryz.prog.wantsStandIn u)=true:=by kernel_rfl
     exact (show Tryz.prog.wantsStandIn t=false by simpa using List.all_eq_true.1 hall t hm)⟩)
  (by kernel_rfl)
end Go.Proofs.YtfoiaiblggapeaaGreatDoor.shapeUnpacks
