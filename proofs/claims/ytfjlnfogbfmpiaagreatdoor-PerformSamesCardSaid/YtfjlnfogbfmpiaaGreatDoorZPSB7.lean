/-
  The texts TH TK of this claim, one behind the other.
-/
import Derived.Test.YtfjlnfogbfmpiaaGreatDoorZPSB6
import Derived.Test.YtfjlnfogbfmpiaaGreatDoorZPSB3
import Derived.Deep.RegionHeld3
import Derived.Deep.DrawnRows
set_option maxHeartbeats 40000000
set_option maxRecDepth 100000
namespace Go.Proofs.YtfjlnfogbfmpiaaGreatDoor.Va
open Go Go.RowKit Nu
attribute [-go_sem] Go.Instr.storeAt Go.Instr.loadAt
theorem rsameP_any {B N n:Nat} {p q:PT} {s s':PS} {w:World} (h:PAt B N n w p s) (h':PAt B N n w q s') (hB:B≤w.heap.size):
 Calls Tryz.prog 9 #[p.agg s,q.agg s'] w fun r w'=>r= .returned (.bool (eqP p q))∧Below w.heap.size w w':=by
 obtain ⟨W1,hW1⟩:∃ W1,(w.alloc (.cells (p.cells s).toArray 36)).alloc (.cells (q.cells s').toArray 36)=W1:=⟨_,rfl⟩
 obtain ⟨hbx,hz1⟩:=TBox.new (x:=p.cells s) (y:=q.cells s') hW1
 have HT:=Lib.hid (h.below (hbx.below.mono hB))
 have HT':=Lib.hid (h'.below (hbx.below.mono hB))
 have hBW:B≤W1.heap.size:=by omega
 have HBX:Hid (∀ v,Below W1.heap.size W1 v→TBox w v (p.cells s) (q.cells s')∧PAt B N n v p s∧PAt B N n v q s'):=fun v hv=>⟨hbx.grow (hv.mono (by omega)),HT.out.below (hv.mono (by omega)),HT'.out.below (hv.mono (by omega))⟩
 obtain ⟨M,hM⟩:∃ M,eqN p q=M:=⟨_,rfl⟩
 obtain ⟨V,hV⟩:∃ V,eqT p.props q.props=V:=⟨_,rfl⟩
 obtain ⟨S,hS⟩:∃ S,eqTT p.src q.src=S:=⟨_,rfl⟩
 obtain ⟨T,hT⟩:∃ T,eqTT p.tgt q.tgt=T:=⟨_,rfl⟩
 obtain ⟨U,hU⟩:∃ U,eqU p.uns q.uns=U:=⟨_,rfl⟩
 obtain ⟨X,hX⟩:∃ X,eqS p.state q.state=X:=⟨_,rfl⟩
 obtain ⟨G,hG⟩:∃ G,eqF p.cond p.text p.info q.cond q.text q.info=G:=⟨_,rfl⟩
 have HE:Hid (eqP p q=(M&&V&&S&&T&&U&&X&&G)):=by
  show eqP p q=_
  rw [←hM,←hU,←hS,←hT,←hX,←hV,←hG];rfl
 have HC0:Hid (∀ v,Below W1.heap.size W1 v→Calls Tryz.prog 27 #[p.agg s,q.agg s'] v fun r w'=>r= .returned (.bool M)∧Below v.heap.size v w'):=fun v hv=>by
  have hw:B≤v.heap.size:=by have:=hv.size;omega
  obtain ⟨_,h1,h2⟩:=HBX.out v hv
  rw [←hM]
  exact numbers_any p q s s' v
 have HC1:Hid (∀ v,Below W1.heap.size W1 v→Calls Tryz.prog 28 #[p.props.agg s.pl,q.props.agg s'.pl] v fun r w'=>r= .returned (.bool V)∧Below v.heap.size v w'):=fun v hv=>by
  have hw:B≤v.heap.size:=by have:=hv.size;omega
  obtain ⟨_,h1,h2⟩:=HBX.out v hv
  rw [←hV]
  exact equal_any ⟨h1.pf,s.pl,rfl,h1.props⟩ ⟨h2.pf,_,rfl,h2.props⟩ hw
 have HC2:Hid (∀ v,Below W1.heap.size W1 v→Calls Tryz.prog 29 #[p.src.agg s.ss,q.src.agg s'.ss] v fun r w'=>r= .returned (.bool S)∧Below v.heap.size v w'):=fun v hv=>by
  have hw:B≤v.heap.size:=by have:=hv.size;omega
  obtain ⟨_,h1,h2⟩:=HBX.out v hv
  rw [←hS]
  exact rsameT_any h1.src h2.src hw
 have HC3:Hid (∀ v,Below W1.heap.size W1 v→Calls Tryz.prog 29 #[p.tgt.agg s.ts,q.tgt.agg s'.ts] v fun r w'=>r= .returned (.bool T)∧Below v.heap.size v w'):=fun v hv=>by
  have hw:B≤v.heap.size:=by have:=hv.size;omega
  obtain ⟨_,h1,h2⟩:=HBX.out v hv
  rw [←hT]
  exact rsameT_any h1.tgt h2.tgt hw
 have HC4:Hid (∀ v,Below W1.heap.size W1 v→Calls Tryz.prog 30 #[s.uv,s'.uv] v fun r w'=>r= .returned (.bool U)∧Below v.heap.size v w'):=fun v hv=>by
  have hw:B≤v.heap.size:=by have:=hv.size;omega
  obtain ⟨_,h1,h2⟩:=HBX.out v hv
  rw [←hU]
  exact rsameU_any h1.uns h2.uns hw
 have HC5:Hid (∀ v,Below W1.heap.size W1 v→Calls Tryz.prog 31 #[p.state.agg s.xil s.xal s.xlv,q.state.agg s'.xil s'.xal s'.xlv] v fun r w'=>r= .returned (.bool X)∧Below v.heap.size v w'):=fun v hv=>by
  have hw:B≤v.heap.size:=by have:=hv.size;omega
  obtain ⟨_,h1,h2⟩:=HBX.out v hv
  rw [←hX]
  exact rsame_any h1.st h2.st hw
 have HC6:Hid (∀ v,Below W1.heap.size W1 v→Calls Tryz.prog 32 #[.agg #[.string p.cond,.string p.text,.int .i64 p.info.kind,.int .u64 p.info.num,.string p.info.text,s.fl,.int .i64 p.info.elem],.agg #[.string q.cond,.string q.text,.int .i64 q.info.kind,.int .u64 q.info.num,.string q.info.text,s'.fl,.int .i64 q.info.elem]] v fun r w'=>r= .returned (.bool G)∧Below v.heap.size v w'):=fun v hv=>by
  have hw:B≤v.heap.size:=by have:=hv.size;omega
  obtain ⟨_,h1,h2⟩:=HBX.out v hv
  rw [←hG]
  exact rsameF p.cond p.text p.info s.fl q.cond q.text q.info s'.fl v h1.if_ h2.if_ h1.info h2.info hw
 obtain ⟨R,hR⟩:∃ R,eqP p q=R:=⟨_,rfl⟩
 rw [hR] at HE ⊢
 clear hR hM hV hS hT hU hX hG
 have B1:Hid (Below W1.heap.size W1 W1):=Below.refl _ _
 clear h h' HT HT'
 have m1:=load_perf (HBX.out W1 B1.out).1.c1
 have m2:=load_perf (HBX.out W1 B1.out).1.c2
 clear hbx
 go_enter Tryz.func9,Tryz.ntmps9
 go_wp2_with (fail)
 clear m1 m2 hW1
 refine (HC0.out W1 B1.out).mono ?_
 rintro r w2 ⟨rfl,hb⟩
 have B2:=Lib.hid (B1.out.trans (hb.mono B1.out.size))
 clear hb HC0
 have m1:=load_value (by have:=cells_pprops (HBX.out w2 B2.out).1.c1;rwa [Nat.zero_add] at this)
 have m2:=load_value (by have:=cells_pprops (HBX.out w2 B2.out).1.c2;rwa [Nat.zero_add] at this)
 go_wp2_with (fail)
 clear m1 m2
 refine (HC1.out w2 B2.out).mono ?_
 rintro r w3 ⟨rfl,hb⟩
 have B3:=Lib.hid (B2.out.trans (hb.mono B2.out.size))
 clear hb HC1
 have m1:=load_term (by have:=cells_psrc (HBX.out w3 B3.out).1.c1;rwa [Nat.zero_add] at this)
 have m2:=load_term (by have:=cells_psrc (HBX.out w3 B3.out).1.c2;rwa [Nat.zero_add] at this)
 go_wp2_with (fail)
 clear m1 m2
 refine (HC2.out w3 B3.out).mono ?_
 rintro r w4 ⟨rfl,hb⟩
 have B4:=Lib.hid (B3.out.trans (hb.mono B3.out.size))
 clear hb HC2
 have m1:=load_term (by have:=cells_ptgt (HBX.out w4 B4.out).1.c1;rwa [Nat.zero_add] at this)
 have m2:=load_term (by have:=cells_ptgt (HBX.out w4 B4.out).1.c2;rwa [Nat.zero_add] at this)
 go_wp2_with (fail)
 clear m1 m2
 refine (HC3.out w4 B4.out).mono ?_
 rintro r w5 ⟨rfl,hb⟩
 have B5:=Lib.hid (B4.out.trans (hb.mono B4.out.size))
 clear hb HC3
 have m1:=load_unss (by have:=cells_puns (HBX.out w5 B5.out).1.c1;rwa [Nat.zero_add] at this)
 have m2:=load_unss (by have:=cells_puns (HBX.out w5 B5.out).1.c2;rwa [Nat.zero_add] at this)
 go_wp2_with (fail)
 clear m1 m2
 refine (HC4.out w5 B5.out).mono ?_
 rintro r w6 ⟨rfl,hb⟩
 have B6:=Lib.hid (B5.out.trans (hb.mono B5.out.size))
 clear hb HC4
 have m1:=load_state (by have:=cells_pstate (HBX.out w6 B6.out).1.c1;rwa [Nat.zero_add] at this)
 have m2:=load_state (by have:=cells_pstate (HBX.out w6 B6.out).1.c2;rwa [Nat.zero_add] at this)
 go_wp2_with (fail)
 clear m1 m2
 refine (HC5.out w6 B6.out).mono ?_
 rintro r w7 ⟨rfl,hb⟩
 have B7:=Lib.hid (B6.out.trans (hb.mono B6.out.size))
 clear hb HC5
 have m1:=load_fault (by have:=cells_pfault (HBX.out w7 B7.out).1.c1;rwa [Nat.zero_add] at this)
 have m2:=load_fault (by have:=cells_pfault (HBX.out w7 B7.out).1.c2;rwa [Nat.zero_add] at this)
 go_wp2_with (fail)
 clear m1 m2
 refine (HC6.out w7 B7.out).mono ?_
 rintro r w8 ⟨rfl,hb⟩
 have B8:=Lib.hid (B7.out.trans (hb.mono B7.out.size))
 clear hb HC6
 have HB:=Lib.hid (HBX.out w8 B8.out).1.below
 go_wp2
 all_goals
  go_ret
  refine ⟨ret_bool ?_,HB.out⟩
  rw [HE.out,Bool.eq_iff_iff]
  simp_all
theorem behind_same:Value.bool (behindB.toList==[98,101,104,105,110,100])= .bool true:=congrArg Value.bool (by kernel_rfl)
theorem asLentP_any {B N n lo hi:Nat} {p:PT} {s s0:PS} {k:PM} {w:World} (h:PLent w N n lo hi p s k) (h0:PAt B N n w p s0) (hB:B≤lo) (hhi:hi≤w.heap.size):
 Calls Tryz.prog 8 #[p.agg s,p.agg s0] w fun r w'=>r= .returned (.bool true)∧Apart lo hi w w':=by
 obtain ⟨l1,l2,l3,l4,l5,l6,l7,l8⟩:=h.le
 obtain ⟨W1,hW1⟩:∃ W1,(w.alloc (.cells (p.cells s).toArray 36)).alloc (.cells (p.cells s0).toArray 36)=W1:=⟨_,rfl⟩
 obtain ⟨hbx,hz1⟩:=TBox.new (x:=p.cells s) (y:=p.cells s0) hW1
 have HP1:=Lib.hid (h.below hhi (hbx.below.mono (Nat.le_refl _)))
 have HO1:=Lib.hid (h0.below (hbx.below.mono (by omega:B≤w.heap.size)))
 have HC0:Hid (Calls Tryz.prog 9 #[p.agg s,p.agg s0] W1 fun r w'=>r= .returned (.bool true)∧Below W1.heap.size W1 w'):=by
  have:=rsameP_any (HP1.out.pat (B:=W1.heap.size) (by omega)) (HO1.out.up (by omega)) (Nat.le_refl _)
  rw [eqP_refl] at this
  exact this
 have HK:Hid (∀ v,Apart lo hi W1 v→Cells v w.heap.size 0 (p.cells s)∧Cells v (w.heap.size+1) 0 (p.cells s0)∧Apart lo hi w v):=fun v hv=>⟨hbx.c1.apart hv (by omega) (.inr hhi),hbx.c2.apart hv (by omega) (.inr (by omega)),(Apart.of_below hbx.below (Nat.le_refl _)).trans hv⟩
 obtain ⟨bX,hux,hlo,hbh,hlen,_⟩:=ulent_open h.uns
 obtain ⟨q,c,hq⟩:=h0.uns.slice
 obtain ⟨m,hm⟩:∃ m,p.uns.length=m:=⟨_,rfl⟩
 have Hm:=Lib.hid hm
 rw [hm] at hux hq hlen
 have HUX:=Lib.hid hux
 have HQ:=Lib.hid hq
 have q1:=load_perf hbx.c1
 have r1:=load_perf hbx.c2
 clear h h0 hbx hm hux hq
 go_enter Tryz.func8,Tryz.ntmps8
 go_wp2_with (fail)
 clear hW1 q1 r1
 refine HC0.out.mono ?_
 rintro r w0 ⟨rfl,hb0⟩
 have HA0:Hid (Apart lo hi W1 w0):=Apart.of_below hb0 (Nat.le_refl _)
 have HP0:=Lib.hid (HP1.out.below (by omega) hb0)
 have HO0:=Lib.hid (HO1.out.below (hb0.mono (by omega)))
 have hz0:w.heap.size+2≤w0.heap.size:=by have:=hb0.size;omega
 obtain ⟨c1,c2,_⟩:=HK.out w0 HA0.out
 have q6:(Instr.loadAt 34 (.pointer (some ⟨w.heap.size,80,none⟩))).run Tryz.prog w0= .ok (.slice (some ⟨bX,0,none⟩) m (m+3)) w0:=by have hx:=cells_puns (o:=0) c1;rw [HUX.out] at hx;exact load_unss hx
 have r6:(Instr.loadAt 34 (.pointer (some ⟨w.heap.size+1,80,none⟩))).run Tryz.prog w0= .ok (.slice q m c) w0:=by have hx:=cells_puns (o:=0) c2;rw [HQ.out] at hx;exact load_unss hx
 have R6:Hid (w0.cell? ⟨w.heap.size+1,80,none⟩=some (.slice q m c)):=by have hx:=cells_puns (o:=0) c2;rw [HQ.out] at hx;exact hx
 have HKR:Hid (UKw w0 w0 N n bX k.k5 hi 0 p.uns):=by
  obtain ⟨b',hb',_,_,_,hk⟩:=ulent_open HP0.out.uns
  have:=HUX.out.symm.trans hb'
  rw [Hm.out] at this
  have:bX=b':=by simpa using this
  subst this
  exact hk
 have hw2:IntKind.i64.wrap ((m:Int)+3)=m+3:=by rw [IntKind.wrap_i64];omega
 have hhi0:hi≤w0.heap.size:=by omega
 clear c1 c2 hb0 HC0 HP1 HO1
 go_wp2
 clear q6 r6
 go_loopw [5,8,9] (fun g i x wr=>g= .bool true∧∃ (j:Nat),i= .int .i64 j∧j≤m+3∧Hid (UKw w0 wr N n bX k.k5 hi j p.uns)) (fun _ i _ _=>m+3-(intOf i).toNat)
 case atStart=>exact ⟨rfl,0,rfl,Nat.zero_le _,HKR⟩
 case round=>
  obtain ⟨rfl,j,rfl,hj,HR⟩:=hrel
  have hap:=HR.out.apart
  have hsz:=hap.size
  have d80:wr.cell? ⟨w.heap.size+1,80,none⟩=some (.slice q m c):=(hap.cell (p:=⟨w.heap.size+1,80,none⟩) (by show w.heap.size+1<_;omega) (.inr (by show hi≤w.heap.size+1;omega))).trans R6.out
  by_cases hlt:j<m+3
  ·have hlt':(j:Int)<(m:Int)+3:=by omega
   have hMK:Hid (∀ w2,(w2.there bX (j*20) 20)→(Instr.storeAt 50 (.pointer (some ⟨bX,j*20,none⟩)) (.agg #[.string ⟨#[111,118,101,114]⟩,.int .i64 0,.int .i64 0,.int .i64 0,.string ⟨#[]⟩,.string ⟨#[]⟩,.int .i64 0,.int .u64 0,.string ⟨#[]⟩,.slice none 0 0,.int .i64 0,.bool false,.bool false,.int .i64 0,.int .u64 0,.string ⟨#[]⟩,.slice none 0 0,.int .i64 0,.string ⟨#[]⟩,.slice none 0 0])).run Tryz.prog w2= .ok () (w2.setCells bX (j*20) (ucells (⟨#[111,118,101,114]⟩,zeroS 0) nilV nilV nilV))):=fun w2 h=>store_uns (u:=(⟨#[111,118,101,114]⟩,zeroS 0)) h
   have hj0:(0:Int)≤(j:Int):=by omega
   have hbw9:bX<wr.heap.size:=by omega
   by_cases hjm:j<m
   ·obtain ⟨t,ht⟩:∃ t,p.uns[j]? =some t:=⟨_,List.getElem?_eq_getElem (by rw [Hm.out];exact hjm)⟩
    obtain ⟨x,y,il',al',lv',n1,n2,hbx,hy,tf,hcl,g1,g2,g3,hst⟩:=HR.out.head ht hlo hhi0
    have hx1:=g1.le
    have hx2:=g2.le
    have hx3:=g3.le
    have ltag:=load_str (cells_utag hcl)
    obtain ⟨q',d',hq',_,hel⟩:=HO0.out.uns
    obtain ⟨b0,off,il'',al'',lv'',hp,hbB,hc,_,hi',ha',hl'⟩:=hel j t ht
    rw [Hm.out] at hq'
    have hqq:=HQ.out.symm.trans hq'
    simp only [Value.slice.injEq] at hqq
    obtain ⟨rfl, -,rfl⟩:=hqq
    subst hp
    have hbw:Below B w0 wr:=hap.below (by omega) (by omega)
    have hc0:=hc.below hbw hbB
    have hjm':(j:Int)<(m:Int):=by omega
    have HC:Hid (∀ w',Below wr.heap.size wr w'→Calls Tryz.prog 24 #[t.2.agg il' al' lv',t.2.agg il'' al'' lv''] w' fun r w''=>r= .returned (.bool true)∧Apart x y w' w''):=fun w' h=>
     aslents n B N x y t.2 il' al' lv' il'' al'' lv'' n1 n2 w' tf (g1.below (by omega) h) (g2.below (by omega) h) (g3.below (by omega) h) ((hi'.below hbw).below (h.mono (by omega))) ((ha'.below hbw).below (h.mono (by omega))) ((hl'.below hbw).below (h.mono (by omega))) (by omega) (by have:=h.size;omega)
    have HST:=Lib.hid hst
    have hHas:=Lib.hid (show ∀ w2,Apart x y wr w2→w2.there bX (j*20) 20 from fun w2 h=>(HR.out.has.apart h (by omega) (.inl hbx)).there (fun o=>(h.frozen (p:=⟨bX,o,none⟩) (by show bX<wr.heap.size;omega) (.inl hbx)).trans (HR.out.froz o)) (by rw [Hm.out];omega))
    have HALL:Hid (∀ w',Apart x y wr w'→((Instr.loadAt 30 (.pointer (some ⟨bX,j*20+1,none⟩))).run Tryz.prog w'= .ok (t.2.agg il' al' lv') w'∧(Instr.loadAt 30 (.pointer (some ⟨b0,off+j*20+1,none⟩))).run Tryz.prog w'= .ok (t.2.agg il'' al'' lv'') w'∧(Instr.loadAt 34 (.pointer (some ⟨w.heap.size+1,80,none⟩))).run Tryz.prog w'= .ok (.slice (some ⟨b0,off,none⟩) m c) w')):=fun w' h=>
     ⟨load_state (cells_ust (hcl.apart h (by omega) (.inl hbx))),load_state (cells_ust (hc0.apart h (by omega) (.inl (by omega)))),load_unss ((h.cell (p:=⟨w.heap.size+1,80,none⟩) (by show w.heap.size+1<_;omega) (.inr (by show y≤w.heap.size+1;omega))).trans d80)⟩
    clear hel hc hi' ha' hl' tf hcl g1 g2 g3 hst hbw hc0 hap d80 hq' ht
    go_wp2
    clear ltag
    go_region_held3 (fun w'=>(Instr.loadAt 30 (.pointer (some ⟨bX,j*20+1,none⟩))).run Tryz.prog w'= .ok (t.2.agg il' al' lv') w'∧(Instr.loadAt 30 (.pointer (some ⟨b0,off+j*20+1,none⟩))).run Tryz.prog w'= .ok (t.2.agg il'' al'' lv'') w'∧(Instr.loadAt 34 (.pointer (some ⟨w.heap.size+1,80,none⟩))).run Tryz.prog w'= .ok (.slice (some ⟨b0,off,none⟩) m c) w')
     (first
       |with_reducible exact HALL.out _ hb2.out
       |with_reducible exact HALL.out _ (Apart.refl _ _ _).drew)
     ((go_at_call 24;refine (HC.out _ (Below.refl _ _).drew).mono ?_;rintro r w2 ⟨rfl,hb2'⟩;have hb2:Hid (Apart x y wr w2):=(Apart.refl x y wr).drew.trans hb2';clear hb2'))
    have hstm:=hMK.out w2 (hHas.out w2 hb2.out)
    clear HALL HC
    go_wp2
    go_roundw
    case rel=>exact ⟨rfl,j+1,by go_num,by omega,HST.out w2 hb2.out _ (ucells_len _ _ _ _)⟩
    case measure=>simp [intOf];omega
   ·have hjm':¬((j:Int)<(m:Int)):=by omega
    obtain ⟨ds,d1,d2,d3⟩:=HR.out.marks j (by rw [Hm.out];omega) (by rw [Hm.out];exact hlt) (Nat.le_refl _)
    subst d2
    have ltag:=load_str (cells_utag (u:=(behindB,zeroS 0)) (il:=nilV) (al:=nilV) (lv:=nilV) d3)
    have hstm:=hMK.out wr (HR.out.has.there HR.out.froz (by rw [Hm.out];omega))
    have HR2:=Lib.hid (HR.out.mark (cs:=ucells (⟨#[111,118,101,114]⟩,zeroS 0) nilV nilV nilV) (by rw [Hm.out];omega) (by rw [Hm.out];exact hlt) hlo hbh (ucells_len _ _ _ _))
    clear d1 d3 hap d80
    go_wp2
    go_roundw
    case rel=>exact ⟨behind_same,j+1,by go_num,by omega,HR2⟩
    case measure=>simp [intOf];omega
  ·obtain rfl:j=m+3:=by omega
   clear d80
   have HAw:Hid (Apart lo hi W1 wr):=HA0.out.trans (hap.wide (by omega) (Nat.le_refl _))
   have HE:Hid (LentAt wr N lo k.k1 s.pl p.props.list∧LentAt wr N k.k1 k.k2 s.fl p.info.list∧LentAt wr N k.k2 k.a1 s.xil p.state.info.list∧LentAt wr N k.a1 k.a2 s.xal p.state.ann.list∧SLent3 wr N n k.a2 k.k3 s.xlv p.state.inner∧TLent wr N n k.k3 k.k4 p.src s.ss k.b1 k.b2 k.b3 k.b4∧TLent wr N n k.k4 k.k5 p.tgt s.ts k.c1 k.c2 k.c3 k.c4∧PAt B N n wr p s0):=
    ⟨HP0.out.props.apart hap (by omega) (.inl (by omega)),HP0.out.info.apart hap (by omega) (.inl (by omega)),HP0.out.si.apart hap (by omega) (.inl (by omega)),HP0.out.sa.apart hap (by omega) (.inl (by omega)),HP0.out.sl.apart hap (by omega) (.inl (by omega)),HP0.out.src.apart hap (by omega) (.inl (by omega)),HP0.out.tgt.apart hap (by omega) (.inl (by omega)),HO0.out.below (hap.below (by omega) (by omega))⟩
   obtain ⟨F1,F2,F3⟩:p.props.Fine∧p.info.Fine∧p.state.Fine:=⟨HP0.out.pf,HP0.out.if_,HP0.out.sf⟩
   have F1:=Lib.hid F1
   have F2:=Lib.hid F2
   have F3:=Lib.hid F3
   clear hap HR HKR HP0 HO0 HA0 R6
   obtain ⟨e0,e1,e2,e3,e4,e5,e6,o⟩:=HE.out
   obtain ⟨c1,c2,_⟩:=HK.out wr HAw.out
   have hsz:=HAw.out.size
   have q1:(Instr.loadAt 25 (.pointer (some ⟨w.heap.size,6,none⟩))).run Tryz.prog wr= .ok (p.props.agg s.pl) wr:=by have hx:=cells_pprops (o:=0) c1;exact load_value (o:=6) hx
   have r1:(Instr.loadAt 25 (.pointer (some ⟨w.heap.size+1,6,none⟩))).run Tryz.prog wr= .ok (p.props.agg s0.pl) wr:=by have hx:=cells_pprops (o:=0) c2;exact load_value (o:=6) hx
   have HC:=Lib.hid (kept_of (kepts N) B lo k.k1 p.props.kind p.props.num p.props.text p.props.elem p.props.list s.pl s0.pl wr e0 o.props (by omega) (by omega))
   have HE2:Hid (∀ v,Apart lo k.k1 wr v→(LentAt v N k.k1 k.k2 s.fl p.info.list∧LentAt v N k.k2 k.a1 s.xil p.state.info.list∧LentAt v N k.a1 k.a2 s.xal p.state.ann.list∧SLent3 v N n k.a2 k.k3 s.xlv p.state.inner∧TLent v N n k.k3 k.k4 p.src s.ss k.b1 k.b2 k.b3 k.b4∧TLent v N n k.k4 k.k5 p.tgt s.ts k.c1 k.c2 k.c3 k.c4∧PAt B N n v p s0)∧Apart lo hi W1 v):=fun v hv=>⟨⟨e1.apart hv (by omega) (.inr (Nat.le_refl _)),e2.apart hv (by omega) (.inr (by omega)),e3.apart hv (by omega) (.inr (by omega)),e4.apart hv (by omega) (.inr (by omega)),e5.apart hv (by omega) (.inr (by omega)),e6.apart hv (by omega) (.inr (by omega)),o.below (hv.below (by omega) (by omega))⟩,HAw.out.trans (hv.wide (by omega) (by omega))⟩
   clear HE HAw e0 e1 e2 e3 e4 e5 e6 o c1 c2
   go_wp2_with (fail)
   clear q1 r1
   refine HC.out.mono ?_
   rintro r v0 ⟨rfl,hv⟩
   obtain ⟨HE,HAw⟩:=HE2.out v0 hv
   have HE:=Lib.hid HE
   have HAw:=Lib.hid HAw
   clear HE2 HC hv hsz
   obtain ⟨e1,e2,e3,e4,e5,e6,o⟩:=HE.out
   obtain ⟨c1,c2,_⟩:=HK.out v0 HAw.out
   have hsz:=HAw.out.size
   have q1:(Instr.loadAt 25 (.pointer (some ⟨w.heap.size,121+2,none⟩))).run Tryz.prog v0= .ok (p.info.agg s.fl) v0:=by have hx:=cells_pinfo (o:=0) c1;exact load_value (o:=123) hx
   have r1:(Instr.loadAt 25 (.pointer (some ⟨w.heap.size+1,121+2,none⟩))).run Tryz.prog v0= .ok (p.info.agg s0.fl) v0:=by have hx:=cells_pinfo (o:=0) c2;exact load_value (o:=123) hx
   have HC:=Lib.hid (kept_of (kepts N) B k.k1 k.k2 p.info.kind p.info.num p.info.text p.info.elem p.info.list s.fl s0.fl v0 e1 o.info (by omega) (by omega))
   have HE2:Hid (∀ v,Apart k.k1 k.k2 v0 v→(LentAt v N k.k2 k.a1 s.xil p.state.info.list∧LentAt v N k.a1 k.a2 s.xal p.state.ann.list∧SLent3 v N n k.a2 k.k3 s.xlv p.state.inner∧TLent v N n k.k3 k.k4 p.src s.ss k.b1 k.b2 k.b3 k.b4∧TLent v N n k.k4 k.k5 p.tgt s.ts k.c1 k.c2 k.c3 k.c4∧PAt B N n v p s0)∧Apart lo hi W1 v):=fun v hv=>⟨⟨e2.apart hv (by omega) (.inr (Nat.le_refl _)),e3.apart hv (by omega) (.inr (by omega)),e4.apart hv (by omega) (.inr (by omega)),e5.apart hv (by omega) (.inr (by omega)),e6.apart hv (by omega) (.inr (by omega)),o.below (hv.below (by omega) (by omega))⟩,HAw.out.trans (hv.wide (by omega) (by omega))⟩
   clear HE HAw e1 e2 e3 e4 e5 e6 o c1 c2
   go_wp2_with (fail)
   clear q1 r1
   refine HC.out.mono ?_
   rintro r v1 ⟨rfl,hv⟩
   obtain ⟨HE,HAw⟩:=HE2.out v1 hv
   have HE:=Lib.hid HE
   have HAw:=Lib.hid HAw
   clear HE2 HC hv hsz
   obtain ⟨e2,e3,e4,e5,e6,o⟩:=HE.out
   obtain ⟨c1,c2,_⟩:=HK.out v1 HAw.out
   have hsz:=HAw.out.size
   have q1:(Instr.loadAt 30 (.pointer (some ⟨w.heap.size,99,none⟩))).run Tryz.prog v1= .ok (p.state.agg s.xil s.xal s.xlv) v1:=by have hx:=cells_pstate (o:=0) c1;exact load_state (o:=99) hx
   have r1:(Instr.loadAt 30 (.pointer (some ⟨w.heap.size+1,99,none⟩))).run Tryz.prog v1= .ok (p.state.agg s0.xil s0.xal s0.xlv) v1:=by have hx:=cells_pstate (o:=0) c2;exact load_state (o:=99) hx
   have HC:=Lib.hid (aslents n B N k.k2 k.k3 p.state s.xil s.xal s.xlv s0.xil s0.xal s0.xlv k.a1 k.a2 v1 F3.out e2 e3 e4 o.si o.sa o.sl (by omega) (by omega))
   have HE2:Hid (∀ v,Apart k.k2 k.k3 v1 v→(TLent v N n k.k3 k.k4 p.src s.ss k.b1 k.b2 k.b3 k.b4∧TLent v N n k.k4 k.k5 p.tgt s.ts k.c1 k.c2 k.c3 k.c4∧PAt B N n v p s0)∧Apart lo hi W1 v):=fun v hv=>⟨⟨e5.apart hv (by omega) (.inr (Nat.le_refl _)),e6.apart hv (by omega) (.inr (by omega)),o.below (hv.below (by omega) (by omega))⟩,HAw.out.trans (hv.wide (by omega) (by omega))⟩
   clear HE HAw e2 e3 e4 e5 e6 o c1 c2
   go_wp2_with (fail)
   clear q1 r1
   refine HC.out.mono ?_
   rintro r v2 ⟨rfl,hv⟩
   obtain ⟨HE,HAw⟩:=HE2.out v2 hv
   have HE:=Lib.hid HE
   have HAw:=Lib.hid HAw
   clear HE2 HC hv hsz
   obtain ⟨e5,e6,o⟩:=HE.out
   obtain ⟨c1,c2,_⟩:=HK.out v2 HAw.out
   have hsz:=HAw.out.size
   have q1:(Instr.loadAt 33 (.pointer (some ⟨w.heap.size,22,none⟩))).run Tryz.prog v2= .ok (p.src.agg s.ss) v2:=by have hx:=cells_psrc (o:=0) c1;exact load_term (o:=22) hx
   have r1:(Instr.loadAt 33 (.pointer (some ⟨w.heap.size+1,22,none⟩))).run Tryz.prog v2= .ok (p.src.agg s0.ss) v2:=by have hx:=cells_psrc (o:=0) c2;exact load_term (o:=22) hx
   have HC:=Lib.hid (asLentT_any e5 o.src (by omega) (by omega))
   have HE2:Hid (∀ v,Apart k.k3 k.k4 v2 v→(TLent v N n k.k4 k.k5 p.tgt s.ts k.c1 k.c2 k.c3 k.c4∧PAt B N n v p s0)∧Apart lo hi W1 v):=fun v hv=>⟨⟨e6.apart hv (by omega) (.inr (Nat.le_refl _)),o.below (hv.below (by omega) (by omega))⟩,HAw.out.trans (hv.wide (by omega) (by omega))⟩
   clear HE HAw e5 e6 o c1 c2
   go_wp2_with (fail)
   clear q1 r1
   refine HC.out.mono ?_
   rintro r v3 ⟨rfl,hv⟩
   obtain ⟨HE,HAw⟩:=HE2.out v3 hv
   have HE:=Lib.hid HE
   have HAw:=Lib.hid HAw
   clear HE2 HC hv hsz
   obtain ⟨e6,o⟩:=HE.out
   obtain ⟨c1,c2,_⟩:=HK.out v3 HAw.out
   have hsz:=HAw.out.size
   have q1:(Instr.loadAt 33 (.pointer (some ⟨w.heap.size,51,none⟩))).run Tryz.prog v3= .ok (p.tgt.agg s.ts) v3:=by have hx:=cells_ptgt (o:=0) c1;exact load_term (o:=51) hx
   have r1:(Instr.loadAt 33 (.pointer (some ⟨w.heap.size+1,51,none⟩))).run Tryz.prog v3= .ok (p.tgt.agg s0.ts) v3:=by have hx:=cells_ptgt (o:=0) c2;exact load_term (o:=51) hx
   have HC:=Lib.hid (asLentT_any e6 o.tgt (by omega) (by omega))
   have HE2:Hid (∀ v,Apart k.k4 k.k5 v3 v→(True∧PAt B N n v p s0)∧Apart lo hi W1 v):=fun v hv=>⟨⟨trivial,o.below (hv.below (by omega) (by omega))⟩,HAw.out.trans (hv.wide (by omega) (by omega))⟩
   clear HE HAw e6 o c1 c2
   go_wp2_with (fail)
   clear q1 r1
   refine HC.out.mono ?_
   rintro r v4 ⟨rfl,hv⟩
   obtain ⟨HE,HAw⟩:=HE2.out v4 hv
   have HE:=Lib.hid HE
   have HAw:=Lib.hid HAw
   clear HE2 HC hv hsz
   have HAN:=Lib.hid (HK.out v4 HAw.out).2.2
   clear HE HAw HK
   go_wp2
   go_ret
   exact ⟨rfl,HAN.out⟩
end Go.Proofs.YtfjlnfogbfmpiaaGreatDoor.Va
