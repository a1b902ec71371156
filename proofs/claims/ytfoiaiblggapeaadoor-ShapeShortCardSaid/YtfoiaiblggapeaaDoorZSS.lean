/-
  Proved: the law longshorelaw07.ShapeShort returns true for any record; the tables of the library are as the program's text lays them (the card's tie). Conditions: none beside the row's own (laid).
-/
import Derived.Test.YtfoiaiblggapeaaDoorCards
import Derived.Test.YtfoiaiblggapeaaDoorTie
import Derived.Test.YtfoiaiblggapeaaDoorZSSB4
import Derived.ProofKit
import Derived.OpenShut
import Derived.LaidLaws
import Derived.Lay
import Derived.MakeChecks
import Derived.SevenTiedAt
import Derived.JoinedOf
import Derived.ChangeVars
import Derived.Lib.LaidU8T
set_option maxHeartbeats 40000000
set_option maxRecDepth 100000
namespace Go.Proofs.YtfoiaiblggapeaaDoor.shapeShort
open Go Go.ChangeShapes Go.WideShapes Go.ChangeAt Go.RowKit Nu Va Uc
section
attribute [-go_sem] Go.Instr.loadAt Go.Instr.storeAt
theorem list_at {B M n c:Nat} {w:World} {p:Option Addr} {g:List VT} (h:LAt B w (M+1) (.slice p n c) g) {i:Nat} {x:VT} (hx:g[i]? =some x):
 ∃ gb go xq xd,p=some ⟨gb,go,none⟩∧gb<B∧x.Fine∧At5 w gb (go+i*5) x (.slice xq x.list.length xd)∧LAt B w M (.slice xq x.list.length xd) x.list:=by
 rcases h with ⟨h0,_⟩|⟨gb,go,c',hp,hgB,_,hel⟩
 ·rw [h0] at hx;simp at hx
 ·cases hp
  obtain ⟨xf,xlv,xat,xl⟩:=hel i x hx
  obtain ⟨xq,xd,rfl⟩:=xl.slice
  exact ⟨gb,go,xq,xd,rfl,hgB,xf,xat,xl⟩
theorem walk_raw {N:Nat} (k:Int) (l:List VT) (lv':Value) (w:World) (hl':LAt w.heap.size w N lv' l) (hE:Env w)
 {tt:TypeId} (hsp:w.heap[0]? =some (.cells (Lib.asciiSpaceTab.map fun z=>Value.int .u8 z).toArray tt (0,0))):
 Calls Tryd.prog 7 #[.agg #[.int .i64 k,lv']] w fun r w'=>r= .returned (.bool true)∧Below w.heap.size w w':=by
 obtain ⟨p',c',rfl⟩:=hl'.slice
 obtain ⟨nl,hnl⟩:∃ n,l.length=n:=⟨_,rfl⟩
 rw [hnl] at hl' ⊢
 obtain ⟨W1,hW1⟩:∃ W1,w.alloc (.cells #[.int .i64 k,.slice p' nl c'] 31)=W1:=⟨_,rfl⟩
 obtain ⟨x2,hz1,hb1⟩:=one_box (cs:=[.int .i64 k,.slice p' nl c']) hW1
 have HB1:=Lib.hid hb1
 have HLD:Hid (∀ v,Below W1.heap.size W1 v→(Instr.loadAt 24 (.pointer (some ⟨w.heap.size,1,none⟩))).run Tryd.prog v= .ok (.slice p' nl c') v∧(Instr.loadAt 3 (.pointer (some ⟨w.heap.size,0,none⟩))).run Tryd.prog v= .ok (.int .i64 k) v∧(Instr.loadAt 31 (.pointer (some ⟨w.heap.size,0,none⟩))).run Tryd.prog v= .ok (.agg #[.int .i64 k,.slice p' nl c']) v):=fun v h=>
  ⟨wload_slice ((x2.below h (by omega)).cell (j:=1) rfl),pload_int ((x2.below h (by omega)).cell (j:=0) rfl),pload_rec (x2.below h (by omega))⟩
 have HO:Hid (∀ v,Below W1.heap.size W1 v→LAt v.heap.size v N (.slice p' nl c') l∧Env v∧Below w.heap.size w v):=fun v h=>by
  have hb:=hb1.trans (h.mono (by omega))
  exact ⟨(hl'.below hb).up hb.size,hE.below hb,hb⟩
 have HN:Hid (l.length=nl):=hnl
 have HGA:Hid (Calls Tryd.prog 12 #[.slice p' nl c'] W1 fun r w'=>r= .returned (.bool (decide (100000<wts l 0)))∧Below W1.heap.size W1 w'):=greatAll_any (HO.out W1 (Below.refl _ _)).1 (Nat.le_refl _)
 have hsp1:W1.heap[0]? =some (.cells (Lib.asciiSpaceTab.map fun z=>Value.int .u8 z).toArray tt (0,0)):=(hb1.block _ (Array.getElem?_eq_some_iff.1 hsp).1).trans hsp
 have HSP:Hid (∀ v,Below W1.heap.size W1 v→Calls Tryd.prog 8 #[] v fun e w'=>e= .returned (.bool true)∧Below v.heap.size v w'):=fun v h=>live_any ((h.block _ (Array.getElem?_eq_some_iff.1 hsp1).1).trans hsp1)
 obtain ⟨l2,_,_⟩:=HLD.out W1 (Below.refl _ _)
 obtain ⟨G',hG'⟩:∃ G,decide (100000<wts l 0)=G:=⟨_,rfl⟩
 have HGG:Hid (decide (100000<wts l 0)=G'):=hG'
 rw [hG'] at HGA
 clear hl' hE hsp hsp1 hb1 x2 hG' hnl
 go_enter Tryd.func7,Tryd.ntmps7
 go_wp2_with (fail)
 clear hW1 l2
 refine HGA.out.mono ?_
 rintro r w3 ⟨rfl,hb3⟩
 have HB3:=Lib.hid hb3
 have HS3:=Lib.hid (HSP.out w3 HB3.out)
 clear hb3 HGA HSP
 go_wp2_with (fail)
 refine HS3.out.mono ?_
 rintro r V ⟨rfl,hbv⟩
 have HX:=Lib.hid (HB3.out.trans (hbv.mono HB3.out.size))
 clear hbv HS3
 cases G' with
 |true=>
  go_wp2
  go_ret
  exact ⟨rfl,(HO.out V HX.out).2.2⟩
 |false=>
 have HSM:Hid (nodesL l≤100000):=small_nodes (of_decide_eq_false HGG.out)
 obtain ⟨_,_,m1⟩:=HLD.out V HX.out
 obtain ⟨y2,y3,_⟩:=HO.out V HX.out
 rcases pk_split k l with ⟨e9,hp,he⟩|⟨yb,l9,hc,hp,hyp,hu,hll,hpp,hs1,hs2⟩
 ·have S6:=Lib.hid (pack_no y3 HN.out y2 (by have:=HSM.out;omega) hp)
  have hcb:(e9 !=0)=true:=by simp [he]
  clear hp he y2 y3
  go_wp2_with (fail)
  clear m1
  refine S6.out.mono ?_
  rintro r w9 ⟨hb9,rfl⟩
  obtain ⟨Wa9,hWa9⟩:∃ Wa,w9.alloc (.cells #[.int .i64 0,.int .u64 0,.string ⟨#[]⟩,.slice none 0 0,.int .i64 0] 26)=Wa:=⟨_,rfl⟩
  obtain ⟨xa9,hza9,hba9⟩:=one_box (cs:=zeroT.cells (.slice none 0 0)) hWa9
  obtain ⟨X9,hst9,bx9,hbb9,hzb9⟩:=val_box xa9 rfl zeroT none 0 0
  have nb9:Below w9.heap.size w9 X9:=hba9.trans hbb9
  have zb9:X9.heap.size=w9.heap.size+1:=by omega
  clear xa9 hza9 hba9 hbb9 hzb9
  replace hst9:(Instr.storeAt 26 (.pointer (some ⟨w9.heap.size,0,none⟩)) (.agg #[.int .i64 0,.int .u64 0,.string ⟨#[]⟩,.slice none 0 0,.int .i64 0])).run Tryd.prog Wa9= .ok () X9:=hst9
  have z9:=hb9.size
  have nx9:Below V.heap.size V X9:=hb9.trans (nb9.mono z9)
  have hw9:=HX.out.trans (nx9.mono HX.out.size)
  have HX9:=Lib.hid hw9
  clear S6 hb9 nb9 zb9 z9 nx9 hw9 bx9
  go_wp2
  go_ret
  exact ⟨rfl,(HO.out X9 HX9.out).2.2⟩
 ·obtain ⟨fs,g,hfs,hpg,hgl,hlast,hdf⟩:=pack_short hc
  rw [hyp,hpg] at hp
  have S6:=Lib.hid (pack_two y3 HN.out y2 (by have:=HSM.out;omega) hp)
  obtain ⟨m,hm⟩:∃ m,fs.length=m:=⟨_,rfl⟩
  obtain ⟨ng,hng⟩:∃ n,g.length=n:=⟨_,rfl⟩
  have HG:Hid (fieldsT k=some fs∧fs.length=m∧g.length=ng∧(∀ x,g[ng-1]? =some x→x.kind≠0)∧(∀ (i:Nat) (f:FT) (x:VT),fs[i]? =some f→g[i]? =some x→eqT x f.dflt=true→x.kind=0)):=⟨hfs,hm,hng,by rw [←hng];exact hlast,hdf⟩
  rw [hm,hng] at hgl
  have HFA:Hid (∀ v,Calls Tryd.prog 19 #[.int .i64 k] v fun r w'=>∃ fp fc,r= .returned (.tuple #[.slice fp m fc,.bool true])∧Fd.FsOwn v.heap.size w'.heap.size w' (.slice fp m fc) fs∧Below v.heap.size v w'):=fun v=>by
   refine (Fd.fields_any k v).mono ?_
   rintro r w' ⟨x,rfl,ho,hb⟩
   rw [hfs] at ho ⊢
   have ho:Fd.FsOwn v.heap.size w'.heap.size w' x fs:=ho
   obtain ⟨fp,fc,rfl,_⟩:=ho.view
   rw [hm] at ho ⊢
   exact ⟨fp,fc,rfl,ho,hb⟩
  clear hc hp hyp hu hll hpp hs1 hs2 hfs hpg hlast hdf hm hng y2 y3
  go_wp2_with (fail)
  clear m1
  refine S6.out.mono ?_
  rintro r w9 ⟨hb9,q1,d1,rfl,o1⟩
  obtain ⟨Wa9,hWa9⟩:∃ Wa,w9.alloc (.cells #[.int .i64 0,.int .u64 0,.string ⟨#[]⟩,.slice none 0 0,.int .i64 0] 26)=Wa:=⟨_,rfl⟩
  obtain ⟨xa9,hza9,hba9⟩:=one_box (cs:=zeroT.cells (.slice none 0 0)) hWa9
  obtain ⟨X9,hst9,bx9,hbb9,hzb9⟩:=val_box xa9 rfl (packV k g) q1 2 d1
  have nb9:Below w9.heap.size w9 X9:=hba9.trans hbb9
  have zb9:X9.heap.size=w9.heap.size+1:=by omega
  clear xa9 hza9 hba9 hbb9 hzb9
  replace hst9:(Instr.storeAt 26 (.pointer (some ⟨w9.heap.size,0,none⟩)) (.agg #[.int .i64 24,.int .u64 0,.string ⟨#[]⟩,.slice q1 2 d1,.int .i64 0])).run Tryd.prog Wa9= .ok () X9:=hst9
  have z9:=hb9.size
  have nx9:Below V.heap.size V X9:=hb9.trans (nb9.mono z9)
  have hw9:=HX.out.trans (nx9.mono HX.out.size)
  have HX9:=Lib.hid hw9
  obtain ⟨b,off,e,p,c,rfl,hbb,C0,C1,L0,L1⟩:=packed_at (M:=9999999999999) ((o1.below nb9).up (B':=X9.heap.size) (by omega))
  have V1:Hid (Box X9 w9.heap.size [.int .i64 24,.int .u64 0,.string ⟨#[]⟩,.slice (some ⟨b,off,none⟩) 2 d1,.int .i64 0]∧w9.heap.size<X9.heap.size∧b<X9.heap.size∧Cells X9 b off (VT.cells (.mk 5 k empt 0 []) e)∧Cells X9 b (off+5) (VT.cells (.mk 21 0 empt 0 g) (.slice p g.length c))∧LAt X9.heap.size X9 9999999999999 e []∧LAt X9.heap.size X9 9999999999999 (.slice p g.length c) g):=⟨bx9,by omega,hbb,C0,C1,L0,L1⟩
  obtain ⟨_,m2,_⟩:=HLD.out X9 HX9.out
  have S7:=Lib.hid (HFA.out X9)
  clear S6 hb9 nb9 zb9 z9 nx9 hw9 bx9 o1 C0 C1 L0 L1 hbb HFA
  go_wp2_with (fail)
  clear hWa9 hst9 m2
  refine S7.out.mono ?_
  rintro r w10 ⟨fp,fc,rfl,ho10,hb10⟩
  have z10:=hb10.size
  have HX10:=Lib.hid (HX9.out.trans (hb10.mono HX9.out.size))
  obtain ⟨v1,v2,v3,v4,v5,v6,v7⟩:=V1.out
  obtain ⟨pe,ce,rfl⟩:=v6.slice
  have HC5:Hid (∀ v,Below w10.heap.size w10 v→Cells v b (off+5) (VT.cells (.mk 21 0 empt 0 g) (.slice p g.length c))∧Cells v b off (VT.cells (.mk 5 k empt 0 []) (.slice pe 0 ce))∧Box v w9.heap.size [.int .i64 24,.int .u64 0,.string ⟨#[]⟩,.slice (some ⟨b,off,none⟩) 2 d1,.int .i64 0]∧LAt v.heap.size v 9999999999999 (.slice pe 0 ce) []∧LAt v.heap.size v 9999999999999 (.slice p g.length c) g):=fun v h=>by
   have h9:Below X9.heap.size X9 v:=hb10.trans (h.mono z10)
   exact ⟨v5.below h9 v3,v4.below h9 v3,v1.below h9 v2,(v6.below h9).up h9.size,(v7.below h9).up h9.size⟩
  have HLV:Hid (∀ v,Below w10.heap.size w10 v→(Below w10.heap.size w10 v∧(Instr.loadAt 24 (.pointer (some ⟨w9.heap.size,3,none⟩))).run Tryd.prog v= .ok (.slice (some ⟨b,off,none⟩) 2 d1) v∧(Instr.loadAt 26 (.pointer (some ⟨b,off,none⟩))).run Tryd.prog v= .ok (.agg #[.int .i64 5,.int .u64 k,.string empt,.slice pe 0 ce,.int .i64 0]) v∧(Instr.loadAt 3 (.pointer (some ⟨w.heap.size,0,none⟩))).run Tryd.prog v= .ok (.int .i64 k) v)):=fun v h=>by
   obtain ⟨_,c0,bx,_,_⟩:=HC5.out v h
   exact ⟨h,wload_slice (bx.cell (j:=3) rfl),wload_value c0,(HLD.out v (HX10.out.trans (h.mono HX10.out.size))).2.1⟩
  have HLW:Hid (∀ v,Below w10.heap.size w10 v→(Instr.loadAt 3 (.pointer (some ⟨w9.heap.size,0,none⟩))).run Tryd.prog v= .ok (.int .i64 24) v∧(Instr.loadAt 3 (.pointer (some ⟨b,off+5,none⟩))).run Tryd.prog v= .ok (.int .i64 21) v∧(Instr.loadAt 24 (.pointer (some ⟨b,off+5+3,none⟩))).run Tryd.prog v= .ok (.slice p ng c) v):=fun v h=>by
   obtain ⟨c1,_,bx,_,_⟩:=HC5.out v h
   have c1:Cells v b (off+5) (VT.cells (.mk 21 0 empt 0 g) (.slice p ng c)):=by rw [←HG.out.2.2.1];exact c1
   exact ⟨pload_int (bx.cell (j:=0) rfl),pload_int (c1 0 _ rfl),wload_slice (c1 3 _ rfl)⟩
  obtain ⟨_,m3,m4,m5⟩:=HLV.out w10 (Below.refl _ _)
  obtain ⟨m6,m7,m8⟩:=HLW.out w10 (Below.refl _ _)
  have hgt:¬(m:Int)<(ng:Int):=by omega
  clear v1 v2 v3 v4 v5 v6 v7 hb10 S7
  have hkr:0≤k∧k<121:=by
   obtain ⟨e,he,rfl,_⟩:=fieldsT_mem HG.out.1
   have hb:∀ e∈tab,e.1<121:=by decide
   have:=hb e he
   omega
  have HEQ:Hid (∀ v,Below w10.heap.size w10 v→Calls Tryd.prog 17 #[.agg #[.int .i64 5,.int .u64 k,.string empt,.slice pe 0 ce,.int .i64 0],.agg #[.int .i64 5,.int .u64 k,.string ⟨#[]⟩,.slice none 0 0,.int .i64 0]] v fun r w'=>r= .returned (.bool true)∧Below v.heap.size v w'):=fun v h=>by
   obtain ⟨_,_,_,le,_⟩:=HC5.out v h
   have hfi:VT.Fine (.mk 5 k empt 0 []):=⟨by show _≤(5:Int);omega,by show (5:Int)≤_;omega,by show (0:Int)≤k;omega,by show k≤_;omega,by show _≤(0:Int);omega,by show (0:Int)≤_;omega,by show (0:Nat)≤_;omega⟩
   have:=equal_any (N:=9999999999999) (t:= .mk 5 k empt 0 []) (t':= .mk 5 k empt 0 []) (v:= .agg #[.int .i64 5,.int .u64 k,.string empt,.slice pe 0 ce,.int .i64 0]) (v':= .agg #[.int .i64 5,.int .u64 k,.string ⟨#[]⟩,.slice none 0 0,.int .i64 0]) (w:=v) ⟨hfi,_,rfl,le⟩ ⟨hfi,_,rfl,.inl ⟨rfl,_,_,rfl⟩⟩ (Nat.le_refl _)
   rw [eqT_self] at this
   exact this
  obtain ⟨hk0,hk1⟩:=hkr
  have hcv:IntKind.u64.wrap k=k:=by rw [IntKind.wrap_u64];omega
  have HL3:Hid (∀ v,Below w10.heap.size w10 v→(Instr.loadAt 24 (.pointer (some ⟨w9.heap.size,3,none⟩))).run Tryd.prog v= .ok (.slice (some ⟨b,off,none⟩) 2 d1) v∧(Instr.loadAt 26 (.pointer (some ⟨b,off,none⟩))).run Tryd.prog v= .ok (.agg #[.int .i64 5,.int .u64 k,.string empt,.slice pe 0 ce,.int .i64 0]) v∧(Instr.loadAt 3 (.pointer (some ⟨w.heap.size,0,none⟩))).run Tryd.prog v= .ok (.int .i64 k) v):=fun v h=>(HLV.out v h).2
  have HLG:Hid (∀ v,Below w10.heap.size w10 v→(Instr.loadAt 24 (.pointer (some ⟨w9.heap.size,3,none⟩))).run Tryd.prog v= .ok (.slice (some ⟨b,off,none⟩) 2 d1) v∧(Instr.loadAt 24 (.pointer (some ⟨b,off+5+3,none⟩))).run Tryd.prog v= .ok (.slice p ng c) v):=fun v h=>⟨(HL3.out v h).1,(HLW.out v h).2.2⟩
  have HGV:Hid (∀ v,Below w10.heap.size w10 v→∀ (i:Nat) (x:VT),g[i]? =some x→∃ gb go xq xd,p=some ⟨gb,go,none⟩∧gb<v.heap.size∧x.Fine∧At5 v gb (go+i*5) x (.slice xq x.list.length xd)∧LAt v.heap.size v 9999999999998 (.slice xq x.list.length xd) x.list):=fun v h i x hx=>list_at (M:=9999999999998) (HC5.out v h).2.2.2.2 hx
  have HFO:Hid (Fd.FsOwn X9.heap.size w10.heap.size w10 (.slice fp m fc) fs):=ho10
  have HGB:=Lib.hid hgl
  clear hk0 hk1 HLV HLW ho10 hgl
  go_wp2
  clear m3 m4 m5 m6 m7 m8
  go_region_held3 (fun v=>(Instr.loadAt 24 (.pointer (some ⟨w9.heap.size,3,none⟩))).run Tryd.prog v= .ok (.slice (some ⟨b,off,none⟩) 2 d1) v∧(Instr.loadAt 26 (.pointer (some ⟨b,off,none⟩))).run Tryd.prog v= .ok (.agg #[.int .i64 5,.int .u64 k,.string empt,.slice pe 0 ce,.int .i64 0]) v∧(Instr.loadAt 3 (.pointer (some ⟨w.heap.size,0,none⟩))).run Tryd.prog v= .ok (.int .i64 k) v)
   (first
     |with_reducible exact HL3.out _ ((Below.refl _ _).drew.trans hb5)
     |with_reducible exact HL3.out _ (Below.refl _ _).drew
     |with_reducible exact HL3.out _ (Below.refl _ _))
   ((go_at_call 17;go_must (refine (HEQ.out _ (Below.refl _ _).drew).mono ?_;rintro r V2 ⟨rfl,hb5'⟩;have hb5:Below w10.heap.size w10.drew V2:=hb5';clear hb5')))
  have HV2:=Lib.hid ((Below.refl w10.heap.size w10).drew.trans hb5)
  clear hb5 hcv HEQ
  obtain ⟨n1,n2⟩:=HLG.out V2 HV2.out
  obtain ⟨LK,hLK⟩:∃ L:Int,L=(g[ng-1]?.map VT.kind).getD 1:=⟨_,rfl⟩
  have HLK:Hid (0<ng→∃ gb go,p=some ⟨gb,go,none⟩∧(Instr.loadAt 3 (.pointer (some ⟨gb,go+(ng-1)*5,none⟩))).run Tryd.prog V2= .ok (.int .i64 LK) V2∧(LK==0)=false):=fun h=>by
   obtain ⟨x,hx⟩:∃ x,g[ng-1]? =some x:=⟨_,List.getElem?_eq_getElem (by rw [HG.out.2.2.1];omega)⟩
   obtain ⟨gb,go,xq,xd,hp,_,_,xat,_⟩:=HGV.out V2 HV2.out _ x hx
   have hk:=HG.out.2.2.2.1 x hx
   rw [hLK,hx]
   exact ⟨gb,go,hp,pload_int xat.kind,by simpa using hk⟩
  clear hLK
  have key:ng=0∨0<ng:=by omega
  rcases key with h0|h0
  case inl=>
   have HZ:=Lib.hid h0
   have hng:¬(0:Int)<(ng:Int):=by omega
   clear h0
   go_wp2
   go_loopw [11] (fun iv wr=>∃ i:Nat,iv= .int .i64 i∧i≤ng∧Hid (Below w10.heap.size w10 wr)) (fun iv _=>ng-(intOf iv).toNat)
   case atStart=>exact ⟨0,rfl,Nat.zero_le _,HV2.out⟩
   case round=>
    obtain ⟨i,rfl,hi,HBW⟩:=hrel
    have hnl:¬(i:Int)<(ng:Int):=by have:=HZ.out;omega
    have HEN:Hid (Below w.heap.size w wr):=(HO.out wr (HX10.out.trans (HBW.out.mono HX10.out.size))).2.2
    go_wp2
    go_ret
    exact ⟨rfl,HEN.out⟩
  case inr=>
   obtain ⟨gb,go,rfl,n3,n4⟩:=HLK.out h0
   have hng:(0:Int)<(ng:Int):=by omega
   have hng1:(0:Int)≤(ng:Int)-1:=by omega
   have hng2:(ng:Int)-1<(ng:Int):=by omega
   have hng3:((ng:Int)-1).toNat=ng-1:=by omega
   have hng4:IntKind.i64.wrap ((ng:Int)-1)=(ng:Int)-1:=by have:=HG.out.2.1;have:=HGB.out;have:=fieldsT_len HG.out.1;rw [IntKind.wrap_i64];omega
   clear h0
   go_wp2
   go_loopw [11] (fun iv wr=>∃ i:Nat,iv= .int .i64 i∧i≤ng∧Hid (Below w10.heap.size w10 wr)) (fun iv _=>ng-(intOf iv).toNat)
   case atStart=>exact ⟨0,rfl,Nat.zero_le _,HV2.out⟩
   case round=>
    obtain ⟨i,rfl,hi,HBW⟩:=hrel
    by_cases hlt:i<ng
    ·obtain ⟨x,hx⟩:∃ x,g[i]? =some x:=⟨_,List.getElem?_eq_getElem (by rw [HG.out.2.2.1];exact hlt)⟩
     obtain ⟨f,hf⟩:∃ f,fs[i]? =some f:=⟨_,List.getElem?_eq_getElem (by have:=HG.out.2.1;have:=HGB.out;omega)⟩
     obtain ⟨gb',go',xq,xd,hp',hgb,xf,xat,xl⟩:=HGV.out wr HBW.out i x hx
     simp only [Option.some.injEq,Addr.mk.injEq,and_true] at hp'
     obtain ⟨rfl,rfl⟩:=hp'
     obtain ⟨q1,d2,e1,hv⟩:=(HFO.out.below HBW.out).view
     obtain ⟨fb,foff,kv,rfl,hfb,⟨a0,a1,a2,a3,a4,a5,a6,a7,a8⟩, -⟩:=hv i f hf
     simp only [Value.slice.injEq] at e1
     obtain ⟨rfl, -, -⟩:=e1
     have hcf:Cells wr fb (foff+i*9+4) (f.dflt.cells (.slice none 0 0)):=fun j u hu=>by
      match j,hu with
      |0,hu=>cases hu;exact a4
      |1,hu=>cases hu;exact a5
      |2,hu=>cases hu;exact a6
      |3,hu=>cases hu;exact a7
      |4,hu=>cases hu;exact a8
      |j+5,hu=>simp [VT.cells] at hu
     have HLX:Hid (∀ v,Below wr.heap.size wr v→(Instr.loadAt 26 (.pointer (some ⟨gb,go+i*5,none⟩))).run Tryd.prog v= .ok (x.agg (.slice xq x.list.length xd)) v∧(Instr.loadAt 26 (.pointer (some ⟨fb,foff+i*9+4,none⟩))).run Tryd.prog v= .ok (.agg #[.int .i64 f.dk,.int .u64 f.dn,.string ⟨f.dt.toArray⟩,.slice none 0 0,.int .i64 0]) v):=fun v h=>
      ⟨wload_value ((at5_cells xat).below h hgb),wload_value (t:=f.dflt) (lv:= .slice none 0 0) (hcf.below h hfb)⟩
     have HLK2:Hid (∀ v,Below wr.heap.size wr v→(Instr.loadAt 3 (.pointer (some ⟨gb,go+i*5,none⟩))).run Tryd.prog v= .ok (.int .i64 x.kind) v):=fun v h=>pload_int (((at5_cells xat).below h hgb) 0 _ rfl)
     have HLI:=Lib.hid (field_lit HG.out.1 (List.mem_of_getElem? hf))
     have HEQ:Hid (∀ v,Below wr.heap.size wr v→Calls Tryd.prog 17 #[x.agg (.slice xq x.list.length xd),.agg #[.int .i64 f.dk,.int .u64 f.dn,.string ⟨f.dt.toArray⟩,.slice none 0 0,.int .i64 0]] v fun r w'=>r= .returned (.bool (eqT x f.dflt))∧Below v.heap.size v w'):=fun v h=>
      equal_any (N:=9999999999998) (B:=v.heap.size) (t:=x) (t':=f.dflt) ⟨xf,_,rfl,(xl.below h).up h.size⟩ (let ⟨a,lv,e,hl⟩:=lit_vat f v HLI.out;⟨a,lv,e,(hl.up (Nat.zero_le _)).mono (by omega)⟩) (Nat.le_refl _)
     obtain ⟨Z,hZ⟩:∃ Z,eqT x f.dflt=Z:=⟨_,rfl⟩
     have HKZ:Hid (Z=true→x.kind=0):=fun h=>HG.out.2.2.2.2 i f x hf hx (hZ.trans h)
     rw [hZ] at HEQ
     have hn13:ng≤13:=by have:=HGB.out;have:=HG.out.2.1;have:=fieldsT_len HG.out.1;omega
     have hi0:(0:Int)≤(i:Int):=by omega
     have hi1:(i:Int)<(ng:Int):=by omega
     have hi2:(i:Int)<(m:Int):=by have:=HGB.out;have:=HG.out.2.1;omega
     clear hZ hx hf xf xat xl hv a0 a1 a2 a3 a4 a5 a6 a7 a8 hcf n1 n2 n3 n4
     go_wp2
     go_region_held3 (fun v=>(Instr.loadAt 26 (.pointer (some ⟨gb,go+i*5,none⟩))).run Tryd.prog v= .ok (x.agg (.slice xq x.list.length xd)) v∧(Instr.loadAt 26 (.pointer (some ⟨fb,foff+i*9+4,none⟩))).run Tryd.prog v= .ok (.agg #[.int .i64 f.dk,.int .u64 f.dn,.string ⟨f.dt.toArray⟩,.slice none 0 0,.int .i64 0]) v)
      (first
        |with_reducible exact HLX.out _ ((Below.refl _ _).drew.trans hb5)
        |with_reducible exact HLX.out _ (Below.refl _ _).drew
        |with_reducible exact HLX.out _ (Below.refl _ _))
      ((go_at_call 17;go_must (refine (HEQ.out _ (Below.refl _ _).drew).mono ?_;rintro r V3 ⟨rfl,hb5'⟩;have hb5:Below wr.heap.size wr.drew V3:=hb5';clear hb5')))
     have HV3:=Lib.hid ((Below.refl wr.heap.size wr).drew.trans hb5)
     have HBN:Hid (Below w10.heap.size w10 V3):=HBW.out.trans (HV3.out.mono HBW.out.size)
     clear hb5
     cases Z with
     |false=>
      go_wp2
      go_roundw
      case rel=>exact ⟨i+1,by go_num,by omega,HBN.out⟩
      case measure=>simp [intOf];omega
     |true=>
      have hk:=HLK2.out V3 HV3.out
      rw [HKZ.out rfl] at hk
      go_wp2
      go_roundw
      case rel=>exact ⟨i+1,by go_num,by omega,HBN.out⟩
      case measure=>simp [intOf];omega
    ·have hnl:¬(i:Int)<(ng:Int):=by omega
     have HEN:Hid (Below w.heap.size w wr):=(HO.out wr (HX10.out.trans (HBW.out.mono HX10.out.size))).2.2
     go_wp2
     go_ret
     exact ⟨rfl,HEN.out⟩
end
theorem readable:∀ t∈[31],Tryd.prog.readableRec t=true∧t<Tryd.prog.types.size:=by
 intro t ht
 simp only [List.mem_cons,List.not_mem_nil,or_false] at ht
 subst ht
 exact ⟨by kernel_rfl,of_decide_eq_true (by kernel_rfl)⟩
theorem own:ownKnob Tryd.prog.godebug=none:=by kernel_rfl
theorem gSpace:Tryd.prog.globalNamed "strings.asciiSpace" =some 0:=by kernel_rfl
theorem spaceData:(Rows.laid_strings_asciiSpace:DataW Unit)=Lib.tabData .u8 Lib.asciiSpaceTab:=by kernel_rfl
theorem listed:("strings.asciiSpace",Lib.tabData .u8 Lib.asciiSpaceTab)∈Rows.shapeShortRow.laid:=by
 rw [←spaceData]
 exact List.Mem.tail _ (List.Mem.tail _ (List.Mem.head _))
theorem dataF:(Rows.laid_unicode_utf8_first:DataW Unit)=Lib.firstData:=by kernel_rfl
theorem dataA:(Rows.laid_unicode_utf8_acceptRanges:DataW Unit)=Lib.acceptData:=by kernel_rfl
theorem listF:("unicode/utf8.first",Lib.firstData)∈Rows.shapeShortRow.laid:=by
 rw [←dataF]
 exact .tail _ (.tail _ (.tail _ (.head _)))
theorem listA:("unicode/utf8.acceptRanges",Lib.acceptData)∈Rows.shapeShortRow.laid:=by
 rw [←dataA]
 exact .head _
theorem tabs {W:World} (hL:laidMet Tryd.prog Rows.shapeShortRow.laid W):Tabs W:=
 utf8Tabs_of_readsT (ρ:=Tryd.dec197_ren) {Tryd.dec197 with} ⟨by kernel_rfl,by kernel_rfl,by kernel_rfl,by kernel_rfl,by kernel_rfl,by kernel_rfl,by kernel_rfl⟩ (Lib.laidMet.reads hL listF) (Lib.laidMet.reads hL listA)
theorem lifted (os:Os) (started:os.Started) (H:Type) (enc:TypeId×Value→H):
 ReturnsInHanded {} Tryd.checked os 7 .any (fun w args=>(Rows.shapeShortSpec.pre enc Tryd.prog Tryd.f7 Rows.shapeShortRow.domain false w args∧laidMetH Tryd.prog Rows.shapeShortRow.laid w)∧sizedMet enc Tryd.prog Tryd.f7 (OpenSpec.ofChange Rows.shapeShortSpec) false w args)
  (Rows.shapeShortSpec.post enc Tryd.prog Tryd.f7 false true false false):=by
 refine returnsInHanded_of_change_and (C:=Tryd.checked) (X:=fun w _=>laidMetH Tryd.prog Rows.shapeShortRow.laid w) (fun _ _ _ hh h=>h.of_heap hh) own started (by kernel_rfl) Tryd.func7
  (ChangeSpec.witness_shaped (enc:=enc) (C:=Tryd.checked) (os:=os) (X:=fun w _=>laidMetH Tryd.prog Rows.shapeShortRow.laid w) false (World.laidAll Tryd.prog os Rows.shapeShortRow.laid) #[.agg #[.int .i64 0,.slice none 0 0]] 8 (World.laidAll_os _ _ _)
    (World.shaped_of_ZipB (by kernel_rfl) (by kernel_rfl)) (by kernel_rfl) (by kernel_rfl) (by kernel_rfl)
    (by rw [MakeChecks.laidMetH_plain _ _ _ (by kernel_rfl)];exact laidMet_laidAll _ (by kernel_rfl) (by kernel_rfl))) ?_
 intro W base args ds gs before hval0 hW _ hsz hL _
 have hval:∀ (j:Nat) t v,Tryd.f7.params[j]? =some t→args[j]? =some v→Value.okWide Tryd.prog W .any base t v:=hval0
 have hW':=hW
 obtain ⟨p,q,hA0,hV,rfl,_,_⟩:=hW
 have hA:DataW.TrodAll enc Tryd.prog W 0 (fun _=>true) true Tryd.f7.params.toList args.toList ds p:=hA0
 have hlt:∀ x∈p,x.block<W.heap.size:=fun x hx=>hW'.lt x (List.mem_append_left _ hx)
 rw [Tryd.params7] at hA hval
 have hargs:=fun (W':World) (hb:Below W.heap.size W W')=>below_trodAll laidOut hb (ts:=[31]) readable hA hlt
 obtain ⟨v0,d0,rfl,rfl,h0⟩:=trodAll_one hA
 obtain ⟨rfl,rfl⟩:=trodVars_none hV
 obtain ⟨k,lv',ts,N1,hv1,b0,b1,hl1⟩:=open_argR (hval 0 31 v0 rfl rfl) h0
 subst hv1
 clear hA0
 simp only [List.append_nil] at hW'
 rw [MakeChecks.laidMetH_plain _ _ _ (by kernel_rfl)] at hL
 obtain ⟨tt,hsp⟩:=CE.laid_block hL listed (by rw [Lib.asciiSpaceTab_length];decide) gSpace (t:=87) (e:=5) (n:=256) (by kernel_rfl) (by kernel_rfl) (by kernel_rfl) (by kernel_rfl) (by kernel_rfl)
 refine (walk_raw k ts lv' W hl1 ⟨⟨tt,hsp⟩,tabs hL⟩ hsp).mono fun e W' ⟨he,hg⟩=>?_
 subst he
 exact ⟨_,rfl,_,_,_,[],_,[],hW',trodAll_mk1 (shut_bool Tryd.underlying4 _),hargs W' hg,rfl,hg.frame _,fun h=>by cases h⟩
theorem over:Rows.ShapeShortSaid:=
 OpenClaim.holds_of_wide 7 Tryd.f7 rfl rfl rfl rfl rfl rfl rfl ⟨rfl,rfl,rfl,rfl,rfl⟩ rfl rfl rfl rfl rfl (by kernel_rfl) Tryd.func7 (by kernel_rfl)
  (of_decide_eq_true (by kernel_rfl)) (by unfold Func.isWrapper;first|(rw [if_pos (by decide+kernel)];kernel_rfl)|(rw [if_neg (by decide+kernel)];exact ⟨rfl,rfl⟩))
  (fun os started H enc _=>lifted os started H enc)
theorem card_holds:Rows.ShapeShortCardSaid:=
 Claim7.holds_tied_plain_at .later [] [.data,.listed,.data,.pinned] true (true, "aa7d4d90d39d56e74064de7aadf4df16557b048d04d44f7824a2a011b39cc821") false over (fun _ h=>by cases h) (by kernel_rfl) (fun _ h=>by cases h) shapeShort_row_tie rfl ⟨rfl,rfl⟩ (by kernel_rfl) rfl
  (fun f fn hf hfn=>by
    obtain rfl:f=7:=Option.some.inj ((show Tryd.prog.funcNamed "longshore/longshorelaw07.ShapeShort" =some 7 by kernel_rfl).symm.trans hf)|>.symm
    obtain rfl:fn=Tryd.f7:=(Option.some.inj (Tryd.func7.symm.trans hfn)).symm
    exact ⟨by kernel_rfl,fun j t ht=>by
     rw [Tryd.params7] at ht
     have hm:t∈[31]:=by simpa using Array.mem_of_getElem? ht
     have hall:([31].all fun u=> !Tryd.prog.wantsStandIn u)=true:=by kernel_rfl
     exact (show Tryd.prog.wantsStandIn t=false by simpa using List.all_eq_true.1 hall t hm)⟩)
  (by kernel_rfl)
#print axioms card_holds
end Go.Proofs.YtfoiaiblggapeaaDoor.shapeShort
