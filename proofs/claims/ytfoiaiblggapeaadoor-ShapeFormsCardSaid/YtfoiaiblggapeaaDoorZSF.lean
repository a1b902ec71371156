/-
  Proved: the law longshorelaw07.ShapeForms returns true for any record, any list of truths; the tables of the library are as the program's text lays them (the card's tie). Conditions: none beside the row's own (laid).
-/
import Derived.Test.YtfoiaiblggapeaaDoorCards
import Derived.Test.YtfoiaiblggapeaaDoorTie
import Derived.Test.YtfoiaiblggapeaaDoorZSFB5
import Derived.ProofKit
import Derived.Deep.AppendLies
import Derived.OpenShut
import Derived.LaidLaws
import Derived.Lay
import Derived.MakeChecks
import Derived.SevenTiedAt
import Derived.JoinedOf
import Derived.ChangeVars
import Derived.Lib.LaidU8T
set_option maxHeartbeats 40000000
set_option maxRecDepth 100000
namespace Go.Proofs.YtfoiaiblggapeaaDoor.shapeForms
open Go Go.ChangeShapes Go.WideShapes Go.ChangeAt Go.RowKit Nu Va Uc
section
attribute [-go_sem] Go.Instr.loadAt Go.Instr.storeAt
structure FormsT (k:Int) (g l':List VT) (fs:List FT) (bs:List Bool) (m nl:Nat):Prop where
 len:fs.length=m
 len':l'.length=nl
 m13:m≤13
 gl:g.length≤fs.length
 fields:fieldsT k=some fs
 small:nodesL g≤300000
 un:unAns (packV k g) (checkT (packV k g) 1)= .ok (k,l')
 form:∀ L,L=longL (rawB bs) fs g∨L=trimT (longL (rawB bs) fs g)→nodes (longV k L)≤400000∧unAns (longV k L) (checkT (longV k L) 1)= .ok (k,l')
 many:nodes (longV k (longL (rawB bs) fs g++[zeroT]))≤400000∧unAns (longV k (longL (rawB bs) fs g++[zeroT])) (checkT (longV k (longL (rawB bs) fs g++[zeroT])) 1)= .error (m,71)
theorem formsT_of {k:Int} {l:List VT} (bs:List Bool) (hs:nodesL l≤100000) (hc:recC (readF 3) (packF 3) k l=0):∃ fs g l' m nl,packF 3 k l=packV k g∧FormsT k g l' fs bs m nl:=by
 obtain ⟨fs,g,l',hf,hp,hgl,hchk,hun,_,hform,hmany⟩:=pack_forms (n:=3) (by decide) hc
 have hn:=pack_nodes2 (mild2F 3) k l
 have hng:=nodes_packV k g
 have hnl:=nodesL_longL (rawB bs) fs g
 have hfl:=fieldsT_len hf
 have hpn:nodes (packF 3 k l)≤2*nodesL l+3:=hn
 rw [hp] at hpn
 refine ⟨fs,g,l',_,_,hp,⟨rfl,rfl,hfl,hgl,hf,by omega,by unfold unAns;rw [if_pos hchk,hun],fun L hL=>⟨?_,?_⟩,?_,?_⟩⟩
 ·rw [nodes_longV]
  rcases hL with rfl|rfl
  ·omega
  ·have:=nodesL_trim (longL (rawB bs) fs g);omega
 ·obtain ⟨h1,h2⟩:=hform (rawB bs) L hL
  unfold unAns;rw [if_pos h1,h2]
 ·rw [nodes_longV,nodesL_snoc,nodes_zeroT];omega
 ·obtain ⟨h1,h2⟩:=hmany (rawB bs)
  unfold unAns;rw [if_pos h1,h2]
theorem walk_raw {N:Nat} (k:Int) (l:List VT) (lv':Value) (w:World) (hl':LAt w.heap.size w N lv' l) (hE:Env w) {rv:Value} {bs:List Bool} (hbs:BAt w rv bs) (tl:Bool)
 {tt:TypeId} (hsp:w.heap[0]? =some (.cells (Lib.asciiSpaceTab.map fun z=>Value.int .u8 z).toArray tt (0,0))):
 Calls Tryd.prog 6 #[.agg #[.int .i64 k,lv'],rv,.bool tl] w fun r w'=>r= .returned (.bool true)∧Below w.heap.size w w':=by
 obtain ⟨p',c',rfl⟩:=hl'.slice
 obtain ⟨nl,hnl⟩:∃ n,l.length=n:=⟨_,rfl⟩
 rw [hnl] at hl' ⊢
 obtain ⟨W1,hW1⟩:∃ W1,w.alloc (.cells #[.int .i64 k,.slice p' nl c'] 31)=W1:=⟨_,rfl⟩
 obtain ⟨x2,hz1,hb1⟩:=one_box (cs:=[.int .i64 k,.slice p' nl c']) hW1
 have HB1:=Lib.hid hb1
 have HLD:Hid (∀ v,Below W1.heap.size W1 v→(Instr.loadAt 24 (.pointer (some ⟨w.heap.size,1,none⟩))).run Tryd.prog v= .ok (.slice p' nl c') v∧(Instr.loadAt 31 (.pointer (some ⟨w.heap.size,0,none⟩))).run Tryd.prog v= .ok (.agg #[.int .i64 k,.slice p' nl c']) v):=fun v h=>
  ⟨wload_slice ((x2.below h (by omega)).cell (j:=1) rfl),pload_rec (x2.below h (by omega))⟩
 have HO:Hid (∀ v,Below W1.heap.size W1 v→LAt v.heap.size v N (.slice p' nl c') l∧Env v∧Below w.heap.size w v∧BAt v rv bs):=fun v h=>by
  have hb:=hb1.trans (h.mono (by omega))
  exact ⟨(hl'.below hb).up hb.size,hE.below hb,hb,hbs.below hb⟩
 have HN:Hid (l.length=nl):=hnl
 have HGA:Hid (Calls Tryd.prog 12 #[.slice p' nl c'] W1 fun r w'=>r= .returned (.bool (decide (100000<wts l 0)))∧Below W1.heap.size W1 w'):=greatAll_any (HO.out W1 (Below.refl _ _)).1 (Nat.le_refl _)
 have hsp1:W1.heap[0]? =some (.cells (Lib.asciiSpaceTab.map fun z=>Value.int .u8 z).toArray tt (0,0)):=(hb1.block _ (Array.getElem?_eq_some_iff.1 hsp).1).trans hsp
 have HSP:Hid (∀ v,Below W1.heap.size W1 v→Calls Tryd.prog 8 #[] v fun e w'=>e= .returned (.bool true)∧Below v.heap.size v w'):=fun v h=>live_any ((h.block _ (Array.getElem?_eq_some_iff.1 hsp1).1).trans hsp1)
 obtain ⟨l2,_⟩:=HLD.out W1 (Below.refl _ _)
 obtain ⟨G',hG'⟩:∃ G,decide (100000<wts l 0)=G:=⟨_,rfl⟩
 have HGG:Hid (decide (100000<wts l 0)=G'):=hG'
 rw [hG'] at HGA
 clear hl' hE hsp hsp1 hb1 x2 hG' hnl hbs
 go_enter Tryd.func6,Tryd.ntmps6
 go_wp2_with (fail)
 clear hW1 l2
 refine HGA.out.mono ?_
 rintro r w3 ⟨rfl,hb3⟩
 have HB3:=Lib.hid hb3
 have HS3:=Lib.hid (HSP.out w3 HB3.out)
 clear hb3 HGA HSP
 go_wp2_with (fail)
 refine HS3.out.mono ?_
 rintro r V ⟨rfl,hbv⟩
 have HX:=Lib.hid (HB3.out.trans (hbv.mono HB3.out.size))
 clear hbv HS3
 cases G' with
 |true=>
  go_wp2
  go_ret
  exact ⟨rfl,(HO.out V HX.out).2.2.1⟩
 |false=>
 have HSM:Hid (nodesL l≤100000):=small_nodes (of_decide_eq_false HGG.out)
 obtain ⟨_,m1⟩:=HLD.out V HX.out
 obtain ⟨y2,y3,_,_⟩:=HO.out V HX.out
 rcases pk_split k l with ⟨e9,hp,he⟩|⟨yb,l9,hc,hp,hyp,hu,hll,hpp,hs1,hs2⟩
 ·have S6:=Lib.hid (pack_no y3 HN.out y2 (by have:=HSM.out;omega) hp)
  have hcb:(e9 !=0)=true:=by simp [he]
  clear hp he y2 y3
  go_wp2_with (fail)
  clear m1
  refine S6.out.mono ?_
  rintro r w9 ⟨hb9,rfl⟩
  obtain ⟨Wa9,hWa9⟩:∃ Wa,w9.alloc (.cells #[.int .i64 0,.int .u64 0,.string ⟨#[]⟩,.slice none 0 0,.int .i64 0] 26)=Wa:=⟨_,rfl⟩
  obtain ⟨xa9,hza9,hba9⟩:=one_box (cs:=zeroT.cells (.slice none 0 0)) hWa9
  obtain ⟨X9,hst9,bx9,hbb9,hzb9⟩:=val_box xa9 rfl zeroT none 0 0
  have nb9:Below w9.heap.size w9 X9:=hba9.trans hbb9
  have zb9:X9.heap.size=w9.heap.size+1:=by omega
  clear xa9 hza9 hba9 hbb9 hzb9
  replace hst9:(Instr.storeAt 26 (.pointer (some ⟨w9.heap.size,0,none⟩)) (.agg #[.int .i64 0,.int .u64 0,.string ⟨#[]⟩,.slice none 0 0,.int .i64 0])).run Tryd.prog Wa9= .ok () X9:=hst9
  have z9:=hb9.size
  have nx9:Below V.heap.size V X9:=hb9.trans (nb9.mono z9)
  have HX9:=Lib.hid (HX.out.trans (nx9.mono HX.out.size))
  clear S6 hb9 nb9 zb9 z9 nx9 bx9
  go_wp2
  go_ret
  exact ⟨rfl,(HO.out X9 HX9.out).2.2.1⟩
 obtain ⟨fs,g,l',m,nk,hpg,hft⟩:=formsT_of bs HSM.out hc
 have FT:=Lib.hid hft
 rw [hyp,hpg] at hp
 have S6:=Lib.hid (pack_two y3 HN.out y2 (by have:=HSM.out;omega) hp)
 clear hc hp hyp hu hll hpp hs1 hs2 hpg hft y2 y3
 go_wp2_with (fail)
 clear m1
 refine S6.out.mono ?_
 rintro r w9 ⟨hb9,q1,d1,rfl,o1⟩
 obtain ⟨Wa9,hWa9⟩:∃ Wa,w9.alloc (.cells #[.int .i64 0,.int .u64 0,.string ⟨#[]⟩,.slice none 0 0,.int .i64 0] 26)=Wa:=⟨_,rfl⟩
 obtain ⟨xa9,hza9,hba9⟩:=one_box (cs:=zeroT.cells (.slice none 0 0)) hWa9
 obtain ⟨X9,hst9,bx9,hbb9,hzb9⟩:=val_box xa9 rfl (packV k g) q1 2 d1
 have nb9:Below w9.heap.size w9 X9:=hba9.trans hbb9
 have zb9:X9.heap.size=w9.heap.size+1:=by omega
 clear xa9 hza9 hba9 hbb9 hzb9
 replace hst9:(Instr.storeAt 26 (.pointer (some ⟨w9.heap.size,0,none⟩)) (.agg #[.int .i64 24,.int .u64 0,.string ⟨#[]⟩,.slice q1 2 d1,.int .i64 0])).run Tryd.prog Wa9= .ok () X9:=hst9
 have z9:=hb9.size
 have nx9:Below V.heap.size V X9:=hb9.trans (nb9.mono z9)
 have HX9:=Lib.hid (HX.out.trans (nx9.mono HX.out.size))
 have V1:Hid (∀ v,Below X9.heap.size X9 v→Box v w9.heap.size [.int .i64 24,.int .u64 0,.string ⟨#[]⟩,.slice q1 2 d1,.int .i64 0]∧w9.heap.size<v.heap.size∧LAt v.heap.size v LV (.slice q1 2 d1) [.mk 5 k empt 0 [],.mk 21 0 empt 0 g]):=by
  have h1:=(o1.below nb9).up (B':=X9.heap.size) (by omega)
  have h2:w9.heap.size<X9.heap.size:=by omega
  exact fun v h=>⟨bx9.below h h2,Nat.lt_of_lt_of_le h2 h.size,(h1.below h).up h.size⟩
 have m2:(Instr.loadAt 26 (.pointer (some ⟨w9.heap.size,0,none⟩))).run Tryd.prog X9= .ok (.agg #[.int .i64 24,.int .u64 0,.string ⟨#[]⟩,.slice q1 2 d1,.int .i64 0]) X9:=wload_value (t:=packV k g) (lv:= .slice q1 2 d1) (V1.out X9 (Below.refl _ _)).1.1
 have S7:Hid (∀ (t:Bool) v,Below X9.heap.size X9 v→Calls Tryd.prog 18 #[.agg #[.int .i64 24,.int .u64 0,.string ⟨#[]⟩,.slice q1 2 d1,.int .i64 0],rv,.bool t] v (LongAns k fs g bs t v)):=fun t v h=>by
  obtain ⟨_,e2,_,e4⟩:=HO.out v (HX9.out.trans (h.mono HX9.out.size))
  exact long_any (M:=9999999999998) t e2 FT.out.fields FT.out.gl (V1.out v h).2.2 e4
 clear S6 hb9 nb9 zb9 z9 nx9 bx9 o1
 have S7a:=Lib.hid (S7.out tl X9 (Below.refl _ _))
 go_wp2_with (fail)
 clear hWa9 hst9 m2
 refine S7a.out.mono ?_
 rintro r w10 ⟨B1,b1,p1,c1,its1,rfl,hB1,hBb1,bx1,hne1,hp1,hL1,hi13,hb10⟩
 have hl1:∃ M,LAt w10.heap.size w10 M (.slice (some ⟨b1,0,none⟩) 2 2) (longV k (its1.map (·.1))).list:=by
  obtain ⟨M,hM⟩:=hp1.all (by unfold maxLen;omega)
  exact ⟨M+2,form_lat bx1 (Va.lt_of_cell (bx1.cell (j:=0) rfl)) hM (name_small FT.out.fields)⟩
 have hL1':its1.map (·.1)=longL (rawB bs) fs g∨its1.map (·.1)=trimT (longL (rawB bs) fs g):=hL1.imp id fun h=>h.2
 obtain ⟨L1,hL⟩:∃ L,its1.map (·.1)=L:=⟨_,rfl⟩
 rw [hL] at hL1' hl1
 obtain ⟨M1,hl1⟩:=hl1
 obtain ⟨Wa10,hWa10⟩:∃ Wa,w10.alloc (.cells #[.int .i64 0,.int .u64 0,.string ⟨#[]⟩,.slice none 0 0,.int .i64 0] 26)=Wa:=⟨_,rfl⟩
 obtain ⟨xa10,hza10,hba10⟩:=one_box (cs:=zeroT.cells (.slice none 0 0)) hWa10
 obtain ⟨X10,hst10,bx10,hbb10,hzb10⟩:=val_box xa10 rfl (longV k L1) (some ⟨b1,0,none⟩) 2 2
 have nb10:Below w10.heap.size w10 X10:=hba10.trans hbb10
 have zb10:X10.heap.size=w10.heap.size+1:=by omega
 clear xa10 hza10 hba10 hbb10 hzb10
 replace hst10:(Instr.storeAt 26 (.pointer (some ⟨w10.heap.size,0,none⟩)) (.agg #[.int .i64 24,.int .u64 0,.string ⟨#[]⟩,.slice (some ⟨b1,0,none⟩) 2 2,.int .i64 0])).run Tryd.prog Wa10= .ok () X10:=hst10
 have z10:=hb10.size
 have nx10:Below X9.heap.size X9 X10:=hb10.trans (nb10.mono z10)
 have HX10:=Lib.hid (HX9.out.trans (nx10.mono HX9.out.size))
 have V2:Hid (∀ v,Below X10.heap.size X10 v→Box v w10.heap.size [.int .i64 24,.int .u64 0,.string ⟨#[]⟩,.slice (some ⟨b1,0,none⟩) 2 2,.int .i64 0]∧LAt v.heap.size v M1 (.slice (some ⟨b1,0,none⟩) 2 2) (longV k L1).list):=by
  have h1:=(hl1.below nb10).up (B':=X10.heap.size) (by omega)
  have h2:w10.heap.size<X10.heap.size:=by omega
  exact fun v h=>⟨bx10.below h h2,(h1.below h).up h.size⟩
 have HB910:=Lib.hid nx10
 have FL:=Lib.hid (FT.out.form L1 hL1')
 have m3:(Instr.loadAt 26 (.pointer (some ⟨w9.heap.size,0,none⟩))).run Tryd.prog X10= .ok (.agg #[.int .i64 24,.int .u64 0,.string ⟨#[]⟩,.slice q1 2 d1,.int .i64 0]) X10:=wload_value (t:=packV k g) (lv:= .slice q1 2 d1) (V1.out X10 HB910.out).1.1
 have S9:=Lib.hid (unpack_ok (t:=packV k g) (HO.out X10 HX10.out).2.1 (packV_fine k g) rfl (V1.out X10 HB910.out).2.2 (by have:=FT.out.small;rw [nodes_packV];omega) FT.out.un FT.out.len')
 clear S7a hb10 nb10 zb10 z10 nx10 bx10 hl1 hL1 hL1' hL hp1 hne1 bx1 hBb1 hB1 hi13
 go_wp2_with (fail)
 clear hWa10 hst10 m3
 refine S9.out.mono ?_
 rintro r w11 ⟨hb11,q2,d2,us2,rfl,o2⟩
 obtain ⟨Wa11,hWa11⟩:∃ Wa,w11.alloc (.cells #[.int .i64 0,.slice none 0 0] 31)=Wa:=⟨_,rfl⟩
 obtain ⟨xa11,hza11,hba11⟩:=one_box (cs:=[.int .i64 0,.slice none 0 0]) hWa11
 obtain ⟨X11,hst11,_,bx11,hbb11,hzb11,_⟩:=rec_store xa11 rfl k q2 nk d2
 have nb11:Below w11.heap.size w11 X11:=hba11.trans hbb11
 have zb11:X11.heap.size=w11.heap.size+1:=by omega
 clear xa11 hza11 hba11 hbb11 hzb11
 have z11:=hb11.size
 have nx11:Below X10.heap.size X10 X11:=hb11.trans (nb11.mono z11)
 have HX11:=Lib.hid (HX10.out.trans (nx11.mono HX10.out.size))
 have HB1011:=Lib.hid nx11
 have V3:Hid (∀ v,Below X11.heap.size X11 v→Box v w11.heap.size [.int .i64 k,.slice q2 nk d2]∧LAt v.heap.size v LV (.slice q2 nk d2) l'):=by
  have h1:=(o2.lat.below nb11).up (B':=X11.heap.size) (by omega)
  have h2:w11.heap.size<X11.heap.size:=by omega
  exact fun v h=>⟨bx11.below h h2,(h1.below h).up h.size⟩
 have m4:(Instr.loadAt 26 (.pointer (some ⟨w10.heap.size,0,none⟩))).run Tryd.prog X11= .ok (.agg #[.int .i64 24,.int .u64 0,.string ⟨#[]⟩,.slice (some ⟨b1,0,none⟩) 2 2,.int .i64 0]) X11:=wload_value (t:=longV k L1) (lv:= .slice (some ⟨b1,0,none⟩) 2 2) (V2.out X11 HB1011.out).1.1
 have S10:=Lib.hid (unpack_ok (t:=longV k L1) (HO.out X11 HX11.out).2.1 (longV_fine k L1) rfl (V2.out X11 HB1011.out).2 (by have:=FL.out.1;omega) FL.out.2 FT.out.len')
 clear S9 hb11 nb11 zb11 z11 nx11 bx11 o2 V2
 go_wp2_with (fail)
 clear hWa11 hst11 m4
 refine S10.out.mono ?_
 rintro r w12 ⟨hb12,q3,d3,us3,rfl,o3⟩
 obtain ⟨Wa12,hWa12⟩:∃ Wa,w12.alloc (.cells #[.int .i64 0,.slice none 0 0] 31)=Wa:=⟨_,rfl⟩
 obtain ⟨xa12,hza12,hba12⟩:=one_box (cs:=[.int .i64 0,.slice none 0 0]) hWa12
 obtain ⟨X12,hst12,_,bx12,hbb12,hzb12,_⟩:=rec_store xa12 rfl k q3 nk d3
 have nb12:Below w12.heap.size w12 X12:=hba12.trans hbb12
 have zb12:X12.heap.size=w12.heap.size+1:=by omega
 clear xa12 hza12 hba12 hbb12 hzb12
 have z12:=hb12.size
 have nx12:Below X11.heap.size X11 X12:=hb12.trans (nb12.mono z12)
 have HX12:=Lib.hid (HX11.out.trans (nx12.mono HX11.out.size))
 have HB1112:=Lib.hid nx12
 have m5:=pload_rec (V3.out X12 HB1112.out).1
 have m6:=pload_rec bx12
 have S11:Hid (Calls Tryd.prog 16 #[.agg #[.int .i64 k,.slice q2 nk d2],.agg #[.int .i64 k,.slice q3 nk d3]] X12 fun r w'=>r= .returned (.bool true)∧Below X12.heap.size X12 w'):=by
  have h1:=(V3.out X12 HB1112.out).2
  have h2:=(o3.lat.below nb12).up (B':=X12.heap.size) (by omega)
  have e:=FT.out.len'
  subst e
  exact sameRec_any h1 h2
 have HB912:Hid (Below X9.heap.size X9 X12):=(HB910.out.trans (HB1011.out.mono HB910.out.size)).trans (HB1112.out.mono (by have:=HB910.out.size;have:=HB1011.out.size;omega))
 clear S10 hb12 nb12 zb12 z12 nx12 bx12 o3 V3
 go_wp2_with (fail)
 clear hWa12 hst12 m5 m6
 refine S11.out.mono ?_
 rintro r w13 ⟨rfl,hb13⟩
 have HX13:=Lib.hid (HX12.out.trans (hb13.mono HX12.out.size))
 have HB913:=Lib.hid (HB912.out.trans (hb13.mono HB912.out.size))
 have m7:(Instr.loadAt 26 (.pointer (some ⟨w9.heap.size,0,none⟩))).run Tryd.prog w13= .ok (.agg #[.int .i64 24,.int .u64 0,.string ⟨#[]⟩,.slice q1 2 d1,.int .i64 0]) w13:=wload_value (t:=packV k g) (lv:= .slice q1 2 d1) (V1.out w13 HB913.out).1.1
 have S12:=Lib.hid (S7.out true w13 HB913.out)
 clear S11 hb13 S7 V1
 go_wp2_with (fail)
 clear m7
 refine S12.out.mono ?_
 rintro r w14 ⟨B2,b2,p2,c2,its2,rfl,hB2,hBb2,bx2,hne2,hp2,hL2,hi2,hb14⟩
 have hL2':its2.map (·.1)=longL (rawB bs) fs g:=hL2.elim id fun h=>absurd h.1 (by decide)
 have hl2:its2.length=m:=by
  have:=congrArg List.length hL2'
  rw [List.length_map,longL_len] at this
  rw [this];exact FT.out.len
 rw [hl2] at bx2 hne2 hp2
 obtain ⟨Wa14,hWa14⟩:∃ Wa,w14.alloc (.cells #[.int .i64 0,.int .u64 0,.string ⟨#[]⟩,.slice none 0 0,.int .i64 0] 26)=Wa:=⟨_,rfl⟩
 obtain ⟨xa14,hza14,hba14⟩:=one_box (cs:=zeroT.cells (.slice none 0 0)) hWa14
 obtain ⟨X14,hst14,bx14,hbb14,hzb14⟩:=val_box xa14 rfl (longV k []) (some ⟨b2,0,none⟩) 2 2
 have nb14:Below w14.heap.size w14 X14:=hba14.trans hbb14
 have zb14:X14.heap.size=w14.heap.size+1:=by omega
 clear xa14 hza14 hba14 hbb14 hzb14
 replace hst14:(Instr.storeAt 26 (.pointer (some ⟨w14.heap.size,0,none⟩)) (.agg #[.int .i64 24,.int .u64 0,.string ⟨#[]⟩,.slice (some ⟨b2,0,none⟩) 2 2,.int .i64 0])).run Tryd.prog Wa14= .ok () X14:=hst14
 have z14:=hb14.size
 have nx14:Below w13.heap.size w13 X14:=hb14.trans (nb14.mono z14)
 have HX14:=Lib.hid (HX13.out.trans (nx14.mono HX13.out.size))
 have V5:Hid (∀ v,Below X14.heap.size X14 v→(Instr.loadAt 24 (.pointer (some ⟨w14.heap.size,3,none⟩))).run Tryd.prog v= .ok (.slice (some ⟨b2,0,none⟩) 2 2) v∧(Instr.loadAt 24 (.pointer (some ⟨b2,0+5+3,none⟩))).run Tryd.prog v= .ok (.slice p2 m c2) v):=fun v h=>by
  have hlt:=Va.lt_of_cell (bx2.cell (j:=0) rfl)
  exact ⟨wload_slice ((bx14.below h (by omega)).cell (j:=3) rfl),wload_slice (((bx2.below nb14 hlt).below h (by omega)).cell (j:=8) rfl)⟩
 obtain ⟨m8,m9⟩:=V5.out X14 (Below.refl _ _)
 clear S12 hL2
 go_wp2
 obtain ⟨xU0,hzU0,hbU0⟩:=one_box (w:=X14) (cs:=[.bool false]) (T:=4) rfl
 have xU:Box ((X14.alloc (.cells #[.bool false] 4)).drew) X14.heap.size [.bool false]:=xU0.heap rfl
 have hbU:Below X14.heap.size X14 ((X14.alloc (.cells #[.bool false] 4)).drew):=hbU0.drew
 obtain ⟨Ut,s1,bt,hbt,hzt⟩:=bool_box xU true
 obtain ⟨Uf,s2,bf,hbf,hzf⟩:=bool_box xU false
 obtain ⟨Utf,s3,btf,hbtf,hztf⟩:=bool_box bt false
 obtain ⟨Uft,s4,bft,hbft,hzft⟩:=bool_box bf true
 have r1:=pload_bool (btf.cell (j:=0) rfl)
 have r2:=pload_bool (bft.cell (j:=0) rfl)
 have HU1:Hid (Below X14.heap.size X14 Utf):=(hbU.trans ((hbt.trans hbtf).mono (by omega)))
 have HU2:Hid (Below X14.heap.size X14 Uft):=(hbU.trans ((hbf.trans hbft).mono (by omega)))
 have HPU:Hid (∀ v,Below X14.heap.size X14 v→PRL B2 26 (fun j=>j<w13.heap.size∨(B2≤j∧j≠b2)) w14 its2 (.slice p2 m c2) v∧Box v b2 (formCells k (.slice p2 m c2))∧Box v w14.heap.size [.int .i64 24,.int .u64 0,.string ⟨#[]⟩,.slice (some ⟨b2,0,none⟩) 2 2,.int .i64 0]):=fun v h=>by
  have hlt:=Va.lt_of_cell (bx2.cell (j:=0) rfl)
  have hv:Below w14.heap.size w14 v:=nb14.trans (h.mono (by omega))
  have h1:=hp2.keep hv
  exact ⟨⟨h1.below,h1.Bw,h1.row,h1.own⟩,bx2.below hv hlt,bx14.below h (by omega)⟩
 have HNE:Hid ((Value.slice p2 m c2).ownBlock≠some b2∧(∀ g,(Value.slice p2 m c2).ownBlock=some g→g<w14.heap.size)∧b2<w14.heap.size∧w14.heap.size<X14.heap.size∧its2.length=m∧its2.map (·.1)=longL (rawB bs) fs g∧w13.heap.size≤B2∧B2≤b2):=⟨hne2,fun g hg=>(hp2.rowBlk hg).2,Va.lt_of_cell (bx2.cell (j:=0) rfl),by omega,hl2,hL2',hB2,hBb2⟩
 obtain ⟨i0,hi0,hi1,hi2,hi3⟩:=info_parts infoVV
 have hmx:m+1≤maxLen:=by have:=FT.out.m13;unfold maxLen;omega
 have hmb:(m+1)*64≤140737488355328:=by have:=FT.out.m13;omega
 clear m8 m9 xU0 hzU0 hbU0 xU hbU bt bf btf bft hbt hbf hbtf hbft hzt hzf hztf hzft hne2 hp2 bx2 hl2 hL2' hb14 nb14 zb14 z14 nx14 bx14 hB2 hBb2
 go_region
 ·have HZC:Hid (Below Utf.heap.size Utf ((Utf.alloc (.cells #[.int .i64 0,.int .u64 0,.string ⟨#[]⟩,.slice none 0 0,.int .i64 0] 26)).drew)):=((Below.refl _ _).alloc (Nat.le_refl _) _).drew
  have HPA:=Lib.hid ((HPU.out Utf HU1.out).1.keep HZC.out)
  have HXA:=Lib.hid ((HPU.out Utf HU1.out).2.1.below HZC.out (by have:=HNE.out.2.2.1;have:=HNE.out.2.2.2.1;have:=HU1.out.size;omega))
  have hrow:=HPA.out.row
  rw [HNE.out.2.2.2.2.1] at hrow
  have hBV:=HPA.out.Bw
  have HLX:Hid (∀ v,Below Utf.heap.size Utf v→(Instr.loadAt 24 (.pointer (some ⟨w14.heap.size,3,none⟩))).run Tryd.prog v= .ok (.slice (some ⟨b2,0,none⟩) 2 2) v∧(Instr.loadAt 24 (.pointer (some ⟨b2,0+5+3,none⟩))).run Tryd.prog v= .ok (.slice p2 m c2) v):=fun v h=>V5.out v (HU1.out.trans (h.mono HU1.out.size))
  go_wp2
  obtain ⟨m8,m9⟩:=HLX.out _ (Below.refl Utf.heap.size Utf).drew
  obtain ⟨m11,m12⟩:=HLX.out _ HZC.out
  go_region_law
   (first
     |(refine step_append_lies _ (by rfl) _ _ _ (by rfl) B2 26 i0 _ 5 64 Tryd.underlying24 hi0 hi1 hi2 hi3 rfl (by omega) (.slice p2 m c2) m (cellsL its2) (by rfl) hrow ⟨Utf.heap.size,0,none⟩ 1 1 (zeroT.cells (.slice none 0 0)) (by rfl) (by rfl) (vt_new Utf zeroT (.slice none 0 0) _) (vt_one _ _ _ _) (by omega) hmx hmb hBV _ rfl ?_
       intro g6' c6' w6 hown6 hgrow6 hat6' hlt6
       have hat6:(Value.slice (some ⟨g6',0,none⟩) (m+1) c6').ownBlock=(Value.slice p2 m c2).ownBlock∨(Value.slice (some ⟨g6',0,none⟩) (m+1) c6').ownBlock=some ((Utf.alloc (.cells #[.int .i64 0,.int .u64 0,.string ⟨#[]⟩,.slice none 0 0,.int .i64 0] 26)).drew).heap.size:=hat6'.elim (fun h=> .inl h.symm) (fun h=> .inr (congrArg some h))
       obtain ⟨g6,c6,X7,e6,h71,h72,⟨M7,h73⟩,h74,h75,h76,h77,h78⟩:=form_push (U:=Utf) HPA.out HXA.out (by have:=HNE.out.2.2.1;have:=HNE.out.2.2.2.1;have:=HU1.out.size;have:=HZC.out.size;omega) HNE.out.2.2.2.2.2.2.2 (by have:=HNE.out.2.2.2.2.2.2;rintro (h|h)<;>omega) HNE.out.1 HNE.out.2.2.2.2.1 FT.out.m13 (name_small FT.out.fields) HZC.out (by have:=HNE.out.2.2.1;have:=HNE.out.2.2.2.1;have:=HU1.out.size;omega) hown6 hgrow6 hat6
       cases e6
       have hst7:(Instr.storeAt 24 (.pointer (some ⟨b2,0+5+3,none⟩)) (.slice (some ⟨g6',0,none⟩) (m+1) c6')).run Tryd.prog w6= .ok () X7:=h71
       rw [HNE.out.2.2.2.2.2.1] at h73
       have hne14:(Value.slice p2 m c2).ownBlock≠some w14.heap.size:=fun e=>by have:=HNE.out.2.1 _ e;omega
       have HX7:Hid (LAt X7.heap.size X7 M7 (.slice (some ⟨b2,0,none⟩) 2 2) (longV k (longL (rawB bs) fs g++[zeroT])).list∧Box X7 w14.heap.size [.int .i64 24,.int .u64 0,.string ⟨#[]⟩,.slice (some ⟨b2,0,none⟩) 2 2,.int .i64 0]∧Below W1.heap.size W1 X7):=
        ⟨h73,(HPU.out Utf HU1.out).2.2.heap (h78 _ (by have:=HNE.out.2.2.2.1;have:=HU1.out.size;omega) (by have:=HNE.out.2.2.1;omega) hne14),(HX14.out.trans (HU1.out.mono HX14.out.size)).trans (h76.mono (by have:=HNE.out.2.2.2.2.2.2.1;have:=HX13.out.size;omega))⟩
       have HW6:Hid (Box w6 w14.heap.size [.int .i64 24,.int .u64 0,.string ⟨#[]⟩,.slice (some ⟨b2,0,none⟩) 2 2,.int .i64 0]∧Box w6 b2 (formCells k (.slice p2 m c2))):=
        ⟨(HPU.out Utf HU1.out).2.2.heap (h77 _ (by have:=HNE.out.2.2.2.1;have:=HU1.out.size;omega) hne14),(HPU.out Utf HU1.out).2.1.heap (h77 _ (by have:=HNE.out.2.2.1;have:=HNE.out.2.2.2.1;have:=HU1.out.size;omega) HNE.out.1)⟩
       obtain ⟨n8,n9⟩:(Instr.loadAt 24 (.pointer (some ⟨w14.heap.size,3,none⟩))).run Tryd.prog w6= .ok (.slice (some ⟨b2,0,none⟩) 2 2) w6∧(Instr.loadAt 24 (.pointer (some ⟨b2,0+5+3,none⟩))).run Tryd.prog w6= .ok (.slice p2 m c2) w6:=⟨wload_slice (HW6.out.1.cell (j:=3) rfl),wload_slice (HW6.out.2.cell (j:=8) rfl)⟩
       have m10:(Instr.loadAt 26 (.pointer (some ⟨w14.heap.size,0,none⟩))).run Tryd.prog X7= .ok (.agg #[.int .i64 24,.int .u64 0,.string ⟨#[]⟩,.slice (some ⟨b2,0,none⟩) 2 2,.int .i64 0]) X7:=wload_value (t:=longV k []) (lv:= .slice (some ⟨b2,0,none⟩) 2 2) HX7.out.2.1.1
       clear h71 h73 h74 h75 h76 h77 h78 hown6 hgrow6 hat6 hat6' hlt6 hne14)
     |fail)
  all_goals
   have S20:=Lib.hid (unpack_no (t:=longV k (longL (rawB bs) fs g++[zeroT])) (HO.out X7 HX7.out.2.2).2.1 (longV_fine k _) rfl HX7.out.1 (by have:=FT.out.many.1;omega) FT.out.many.2 (i:=(m:Int)) rfl)
   go_wp2_with (fail)
   clear m10
   refine S20.out.mono ?_
   rintro r w20 ⟨hb20,rfl⟩
   obtain ⟨Wa20,hWa20⟩:∃ Wa,w20.alloc (.cells #[.int .i64 0,.slice none 0 0] 31)=Wa:=⟨_,rfl⟩
   obtain ⟨xa20,hza20,hba20⟩:=one_box (cs:=[.int .i64 0,.slice none 0 0]) hWa20
   obtain ⟨X20,hst20, -,bx20,hbb20,hzb20, -⟩:=rec_store xa20 rfl 0 none 0 0
   have HEN:Hid (Below w.heap.size w X20):=(HO.out X20 (HX7.out.2.2.trans ((hb20.trans ((hba20.trans hbb20).mono hb20.size)).mono HX7.out.2.2.size))).2.2.1
   clear xa20 hza20 hba20 hbb20 hzb20 bx20 hb20 S20
   go_wp2
   go_ret
   exact ⟨by simp,HEN.out⟩
 ·obtain ⟨m8,m9⟩:=V5.out Uft HU2.out
  have HZC:Hid (Below Uft.heap.size Uft (Uft.alloc (.cells #[.int .i64 0,.int .u64 0,.string ⟨#[]⟩,.slice none 0 0,.int .i64 0] 26))):=(Below.refl _ _).alloc (Nat.le_refl _) _
  have HPA:=Lib.hid ((HPU.out Uft HU2.out).1.keep HZC.out)
  have HXA:=Lib.hid ((HPU.out Uft HU2.out).2.1.below HZC.out (by have:=HNE.out.2.2.1;have:=HNE.out.2.2.2.1;have:=HU2.out.size;omega))
  have hrow:=HPA.out.row
  rw [HNE.out.2.2.2.2.1] at hrow
  have hBV:=HPA.out.Bw
  go_wp2_with (at_builtin;go_must (
   refine wpList_append_own_at _ rfl _ _ 24 rfl B2 26 i0 _ 5 64 Tryd.underlying24 hi0 hi1 hi2 hi3 rfl (by decide) (.slice p2 m c2) m (cellsL its2) rfl hrow ⟨Uft.heap.size,0,none⟩ 1 1 (zeroT.cells (.slice none 0 0)) rfl rfl (vt_new Uft zeroT (.slice none 0 0) _) (vt_one _ _ _ _) hmx hmb hBV ?_
   intro v' w6 hown6 hgrow6 hnil6 hat6
   obtain ⟨g6,c6,X7,rfl,h71,h72,⟨M7,h73⟩,h74,h75,h76,h77,h78⟩:=form_push (U:=Uft) HPA.out HXA.out (by have:=HNE.out.2.2.1;have:=HNE.out.2.2.2.1;have:=HU2.out.size;have:=HZC.out.size;omega) HNE.out.2.2.2.2.2.2.2 (by have:=HNE.out.2.2.2.2.2.2;rintro (h|h)<;>omega) HNE.out.1 HNE.out.2.2.2.2.1 FT.out.m13 (name_small FT.out.fields) HZC.out (by have:=HNE.out.2.2.1;have:=HNE.out.2.2.2.1;have:=HU2.out.size;omega) hown6 hgrow6 hat6
   have hst7:(Instr.storeAt 24 (.pointer (some ⟨b2,0+5+3,none⟩)) (.slice (some ⟨g6,0,none⟩) (m+1) c6)).run Tryd.prog w6= .ok () X7:=h71
   rw [HNE.out.2.2.2.2.2.1] at h73
   have hne14:(Value.slice p2 m c2).ownBlock≠some w14.heap.size:=fun e=>by have:=HNE.out.2.1 _ e;omega
   have HX7:Hid (LAt X7.heap.size X7 M7 (.slice (some ⟨b2,0,none⟩) 2 2) (longV k (longL (rawB bs) fs g++[zeroT])).list∧Box X7 w14.heap.size [.int .i64 24,.int .u64 0,.string ⟨#[]⟩,.slice (some ⟨b2,0,none⟩) 2 2,.int .i64 0]∧Below W1.heap.size W1 X7):=
    ⟨h73,(HPU.out Uft HU2.out).2.2.heap (h78 _ (by have:=HNE.out.2.2.2.1;have:=HU2.out.size;omega) (by have:=HNE.out.2.2.1;omega) hne14),(HX14.out.trans (HU2.out.mono HX14.out.size)).trans (h76.mono (by have:=HNE.out.2.2.2.2.2.2.1;have:=HX13.out.size;omega))⟩
   have HW6:Hid (Box w6 w14.heap.size [.int .i64 24,.int .u64 0,.string ⟨#[]⟩,.slice (some ⟨b2,0,none⟩) 2 2,.int .i64 0]∧Box w6 b2 (formCells k (.slice p2 m c2))):=
    ⟨(HPU.out Uft HU2.out).2.2.heap (h77 _ (by have:=HNE.out.2.2.2.1;have:=HU2.out.size;omega) hne14),(HPU.out Uft HU2.out).2.1.heap (h77 _ (by have:=HNE.out.2.2.1;have:=HNE.out.2.2.2.1;have:=HU2.out.size;omega) HNE.out.1)⟩
   have hs6:(Instr.loadAt 24 (.pointer (some ⟨w14.heap.size,3,none⟩))).run Tryd.prog w6= .ok (.slice (some ⟨b2,0,none⟩) 2 2) w6∧(Instr.loadAt 24 (.pointer (some ⟨b2,0+5+3,none⟩))).run Tryd.prog w6= .ok (.slice p2 m c2) w6:=⟨wload_slice (HW6.out.1.cell (j:=3) rfl),wload_slice (HW6.out.2.cell (j:=8) rfl)⟩
   have m10:(Instr.loadAt 26 (.pointer (some ⟨w14.heap.size,0,none⟩))).run Tryd.prog X7= .ok (.agg #[.int .i64 24,.int .u64 0,.string ⟨#[]⟩,.slice (some ⟨b2,0,none⟩) 2 2,.int .i64 0]) X7:=wload_value (t:=longV k []) (lv:= .slice (some ⟨b2,0,none⟩) 2 2) HX7.out.2.1.1
   clear h71 h73 h74 h75 h76 h77 h78 hown6 hgrow6 hnil6 hat6 hne14))
  have S20:=Lib.hid (unpack_no (t:=longV k (longL (rawB bs) fs g++[zeroT])) (HO.out X7 HX7.out.2.2).2.1 (longV_fine k _) rfl HX7.out.1 (by have:=FT.out.many.1;omega) FT.out.many.2 (i:=(m:Int)) rfl)
  clear m10
  refine S20.out.mono ?_
  rintro r w20 ⟨hb20,rfl⟩
  obtain ⟨Wa20,hWa20⟩:∃ Wa,w20.alloc (.cells #[.int .i64 0,.slice none 0 0] 31)=Wa:=⟨_,rfl⟩
  obtain ⟨xa20,hza20,hba20⟩:=one_box (cs:=[.int .i64 0,.slice none 0 0]) hWa20
  obtain ⟨X20,hst20, -,bx20,hbb20,hzb20, -⟩:=rec_store xa20 rfl 0 none 0 0
  have HEN:Hid (Below w.heap.size w X20):=(HO.out X20 (HX7.out.2.2.trans ((hb20.trans ((hba20.trans hbb20).mono hb20.size)).mono HX7.out.2.2.size))).2.2.1
  clear xa20 hza20 hba20 hbb20 hzb20 bx20 hb20 S20
  go_wp2
  go_ret
  exact ⟨by simp,HEN.out⟩
end
theorem readable:∀ t∈[31,42,4],Tryd.prog.readableRec t=true∧t<Tryd.prog.types.size:=by
 intro t ht
 simp only [List.mem_cons,List.not_mem_nil,or_false] at ht
 rcases ht with rfl|rfl|rfl
 ·exact ⟨by kernel_rfl,of_decide_eq_true (by kernel_rfl)⟩
 ·exact ⟨by kernel_rfl,of_decide_eq_true (by kernel_rfl)⟩
 ·exact ⟨by kernel_rfl,of_decide_eq_true (by kernel_rfl)⟩
theorem own:ownKnob Tryd.prog.godebug=none:=by kernel_rfl
theorem gSpace:Tryd.prog.globalNamed "strings.asciiSpace" =some 0:=by kernel_rfl
theorem spaceData:(Rows.laid_strings_asciiSpace:DataW Unit)=Lib.tabData .u8 Lib.asciiSpaceTab:=by kernel_rfl
theorem listed:("strings.asciiSpace",Lib.tabData .u8 Lib.asciiSpaceTab)∈Rows.shapeFormsRow.laid:=by
 rw [←spaceData]
 exact List.Mem.tail _ (List.Mem.tail _ (List.Mem.head _))
theorem dataF:(Rows.laid_unicode_utf8_first:DataW Unit)=Lib.firstData:=by kernel_rfl
theorem dataA:(Rows.laid_unicode_utf8_acceptRanges:DataW Unit)=Lib.acceptData:=by kernel_rfl
theorem listF:("unicode/utf8.first",Lib.firstData)∈Rows.shapeFormsRow.laid:=by
 rw [←dataF]
 exact .tail _ (.tail _ (.tail _ (.head _)))
theorem listA:("unicode/utf8.acceptRanges",Lib.acceptData)∈Rows.shapeFormsRow.laid:=by
 rw [←dataA]
 exact .head _
theorem tabs {W:World} (hL:laidMet Tryd.prog Rows.shapeFormsRow.laid W):Tabs W:=
 utf8Tabs_of_readsT (ρ:=Tryd.dec197_ren) {Tryd.dec197 with} ⟨by kernel_rfl,by kernel_rfl,by kernel_rfl,by kernel_rfl,by kernel_rfl,by kernel_rfl,by kernel_rfl⟩ (Lib.laidMet.reads hL listF) (Lib.laidMet.reads hL listA)
theorem lifted (os:Os) (started:os.Started) (H:Type) (enc:TypeId×Value→H):
 ReturnsInHanded {} Tryd.checked os 6 .any (fun w args=>(Rows.shapeFormsSpec.pre enc Tryd.prog Tryd.f6 Rows.shapeFormsRow.domain false w args∧laidMetH Tryd.prog Rows.shapeFormsRow.laid w)∧sizedMet enc Tryd.prog Tryd.f6 (OpenSpec.ofChange Rows.shapeFormsSpec) false w args)
  (Rows.shapeFormsSpec.post enc Tryd.prog Tryd.f6 false true false false):=by
 refine returnsInHanded_of_change_and (C:=Tryd.checked) (X:=fun w _=>laidMetH Tryd.prog Rows.shapeFormsRow.laid w) (fun _ _ _ hh h=>h.of_heap hh) own started (by kernel_rfl) Tryd.func6
  (ChangeSpec.witness_shaped (enc:=enc) (C:=Tryd.checked) (os:=os) (X:=fun w _=>laidMetH Tryd.prog Rows.shapeFormsRow.laid w) false (World.laidAll Tryd.prog os Rows.shapeFormsRow.laid) #[.agg #[.int .i64 0,.slice none 0 0],.slice none 0 0,.bool false] 8 (World.laidAll_os _ _ _)
    (World.shaped_of_ZipB (by kernel_rfl) (by kernel_rfl)) (by kernel_rfl) (by kernel_rfl) (by kernel_rfl)
    (by rw [MakeChecks.laidMetH_plain _ _ _ (by kernel_rfl)];exact laidMet_laidAll _ (by kernel_rfl) (by kernel_rfl))) ?_
 intro W base args ds gs before hval0 hW _ hsz hL _
 have hval:∀ (j:Nat) t v,Tryd.f6.params[j]? =some t→args[j]? =some v→Value.okWide Tryd.prog W .any base t v:=hval0
 have hW':=hW
 obtain ⟨p,q,hA0,hV,rfl,_,_⟩:=hW
 have hA:DataW.TrodAll enc Tryd.prog W 0 (fun _=>true) true Tryd.f6.params.toList args.toList ds p:=hA0
 have hlt:∀ x∈p,x.block<W.heap.size:=fun x hx=>hW'.lt x (List.mem_append_left _ hx)
 rw [Tryd.params6] at hA hval
 have hargs:=fun (W':World) (hb:Below W.heap.size W W')=>below_trodAll laidOut hb (ts:=[31,42,4]) readable hA hlt
 obtain ⟨v0,v1,v2,d0,d1,d2,p0,p1,p2,rfl,rfl,rfl,h0,h1,h2⟩:=trodAll_three hA
 obtain ⟨rfl,rfl⟩:=trodVars_none hV
 obtain ⟨k,lv',ts,N1,hv1,b0,b1,hl1⟩:=open_argR (hval 0 31 v0 rfl rfl) h0
 obtain ⟨bs,hbs⟩:=open_argB (hval 1 42 v1 rfl rfl) h1
 obtain ⟨tl,hv2⟩:=open_argT (hval 2 4 v2 rfl rfl)
 subst hv1 hv2
 clear hA0
 simp only [List.append_nil] at hW'
 rw [MakeChecks.laidMetH_plain _ _ _ (by kernel_rfl)] at hL
 obtain ⟨tt,hsp⟩:=CE.laid_block hL listed (by rw [Lib.asciiSpaceTab_length];decide) gSpace (t:=87) (e:=5) (n:=256) (by kernel_rfl) (by kernel_rfl) (by kernel_rfl) (by kernel_rfl) (by kernel_rfl)
 refine (walk_raw k ts lv' W hl1 ⟨⟨tt,hsp⟩,tabs hL⟩ hbs tl hsp).mono fun e W' ⟨he,hg⟩=>?_
 subst he
 exact ⟨_,rfl,_,_,_,[],_,[],hW',trodAll_mk1 (shut_bool Tryd.underlying4 _),hargs W' hg,rfl,hg.frame _,fun h=>by cases h⟩
theorem over:Rows.ShapeFormsSaid:=
 OpenClaim.holds_of_wide 6 Tryd.f6 rfl rfl rfl rfl rfl rfl rfl ⟨rfl,rfl,rfl,rfl,rfl⟩ rfl rfl rfl rfl rfl (by kernel_rfl) Tryd.func6 (by kernel_rfl)
  (of_decide_eq_true (by kernel_rfl)) (by unfold Func.isWrapper;first|(rw [if_pos (by decide+kernel)];kernel_rfl)|(rw [if_neg (by decide+kernel)];exact ⟨rfl,rfl⟩))
  (fun os started H enc _=>lifted os started H enc)
theorem card_holds:Rows.ShapeFormsCardSaid:=
 Claim7.holds_tied_plain_at .later [] [.data,.listed,.data,.pinned] true (true, "aa7d4d90d39d56e74064de7aadf4df16557b048d04d44f7824a2a011b39cc821") false over (fun _ h=>by cases h) (by kernel_rfl) (fun _ h=>by cases h) shapeForms_row_tie rfl ⟨rfl,rfl⟩ (by kernel_rfl) rfl
  (fun f fn hf hfn=>by
    obtain rfl:f=6:=Option.some.inj ((show Tryd.prog.funcNamed "longshore/longshorelaw07.ShapeForms" =some 6 by kernel_rfl).symm.trans hf)|>.symm
    obtain rfl:fn=Tryd.f6:=(Option.some.inj (Tryd.func6.symm.trans hfn)).symm
    exact ⟨by kernel_rfl,fun j t ht=>by
     rw [Tryd.params6] at ht
     have hm:t∈[31,42,4]:=by simpa using Array.mem_of_getElem? ht
     have hall:([31,42,4].all fun u=> !Tryd.prog.wantsStandIn u)=true:=by kernel_rfl
     exact (show Tryd.prog.wantsStandIn t=false by simpa using List.all_eq_true.1 hall t hm)⟩)
  (by kernel_rfl)
#print axioms card_holds
end Go.Proofs.YtfoiaiblggapeaaDoor.shapeForms
