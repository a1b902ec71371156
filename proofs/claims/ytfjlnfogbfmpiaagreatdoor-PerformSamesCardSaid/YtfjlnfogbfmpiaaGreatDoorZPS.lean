/-
  Proved: the law longshorelaw09.PerformSames returns true for any two performatives; the table strings.asciiSpace is as the program's text lays it (the card's tie). Conditions: none beside the row's own (laid).
-/
import Derived.Test.YtfjlnfogbfmpiaaGreatDoorCards
import Derived.Test.YtfjlnfogbfmpiaaGreatDoorTie
import Derived.Test.YtfjlnfogbfmpiaaGreatDoorZPSB5
import Derived.Test.YtfjlnfogbfmpiaaGreatDoorZPSB7
import Derived.Test.YtfjlnfogbfmpiaaGreatDoorZPSB8
import Derived.Test.YtfjlnfogbfmpiaaGreatDoorZPSA9
import Derived.Test.YtfjlnfogbfmpiaaGreatDoorZPSB9
import Derived.ProofKit
import Derived.OpenShut
import Derived.LaidLaws
import Derived.Lay
import Derived.MakeChecks
import Derived.SevenTiedAt
import Derived.JoinedOf
import Derived.ChangeVars
set_option maxHeartbeats 40000000
set_option maxRecDepth 100000
namespace Go.Proofs.YtfjlnfogbfmpiaaGreatDoor.performSames
open Go Go.ChangeShapes Go.WideShapes Go.ChangeAt Go.RowKit Nu Va
theorem awake_any {w:World} {t:TypeId} (hsp:w.heap[0]? =some (.cells (Lib.asciiSpaceTab.map fun z=>Value.int .u8 z).toArray t (0,0))):
 Calls Tryz.prog 4 #[] w fun e w'=>e= .returned (.bool true)∧Below w.heap.size w w':=
 CE.calls_entry Go.Proofs.YtfjlnfogbfmpiaaGreatDoor.Aw.awake_ok (CE.lies_tab (by decide) hsp)
section
attribute [-go_sem] Go.Instr.loadAt Go.Instr.storeAt
theorem box_perf (v:World) {p:PT} {s:PS} (h1:s.one):∃ V1 V2,v.alloc (.cells Tryz.zeroCells36 36)=V1∧(Instr.storeAt 36 (.pointer (some ⟨v.heap.size,0,none⟩)) (p.agg s)).run Tryz.prog V1= .ok () V2∧
 Cells V2 v.heap.size 0 (p.cells s)∧Below v.heap.size v V2∧V2.heap.size=v.heap.size+1:=by
 obtain ⟨hz,h2,h3⟩:=box1 (w:=v) (cs:=zeroPT.cells nilPS) (T:=36) rfl
 rw [←zero128_eq] at hz h2 h3
 have hh:=cells_has hz
 have hf:∀ j,(v.alloc (.cells Tryz.zeroCells36 36)).frozen? ⟨v.heap.size,j,none⟩=false:=fun j=>World.frozen?_alloc_new _ _ _ _
 refine ⟨_,_,rfl,store_perf (hh.there hf (o:=0) (n:=128) (by rw [PT.cells_len];exact Nat.le_refl _)) h1,hh.setC (by rw [PT.cells_len,PT.cells_len];exact Nat.le_refl _),setCells_below (Nat.le_refl _) _ _ _ h3,?_⟩
 rw [setCells_size (v.alloc (.cells Tryz.zeroCells36 36))];exact h2
theorem walk_raw {N n:Nat} (p q:PT) (s s':PS) (w:World) (h:PAt w.heap.size N n w p s) (h':PAt w.heap.size N n w q s') (hx:PTx p) (hx':PTx q)
 {tt:TypeId} (hsp:w.heap[0]? =some (.cells (Lib.asciiSpaceTab.map fun z=>Value.int .u8 z).toArray tt (0,0))):
 Calls Tryz.prog 3 #[p.agg s,q.agg s'] w fun r w'=>r= .returned (.bool true)∧Below w.heap.size w w':=by
 obtain ⟨W1,hW1⟩:∃ W1,(w.alloc (.cells (p.cells s).toArray 36)).alloc (.cells (q.cells s').toArray 36)=W1:=⟨_,rfl⟩
 obtain ⟨hbx,hz1⟩:=TBox.new (x:=p.cells s) (y:=q.cells s') hW1
 have HK:Hid (∀ v,Below (w.heap.size+2) W1 v→((Instr.loadAt 36 (.pointer (some ⟨w.heap.size,0,none⟩))).run Tryz.prog v= .ok (p.agg s) v∧(Instr.loadAt 36 (.pointer (some ⟨w.heap.size+1,0,none⟩))).run Tryz.prog v= .ok (q.agg s') v)∧PAt w.heap.size N n v p s∧PAt w.heap.size N n v q s'∧Below w.heap.size w v∧w.heap.size+2≤v.heap.size):=fun v hv=>
  have hg:=hbx.grow hv
  ⟨⟨load_perf hg.c1,load_perf hg.c2⟩,h.below hg.below,h'.below hg.below,hg.below,hg.size⟩
 have HC:Hid (∀ v,Below (w.heap.size+2) W1 v→Cells v w.heap.size 0 (p.cells s)∧Cells v (w.heap.size+1) 0 (q.cells s')):=fun v hv=>⟨(hbx.grow hv).c1,(hbx.grow hv).c2⟩
 have hsp1:W1.heap[0]? =some (.cells (Lib.asciiSpaceTab.map fun z=>Value.int .u8 z).toArray tt (0,0)):=(hbx.below.block _ (Array.getElem?_eq_some_iff.1 hsp).1).trans hsp
 have HAW:=Lib.hid (awake_any hsp1)
 have HX:=Lib.hid hx
 have HX':=Lib.hid hx'
 clear h h' hx hx' hbx hsp hsp1
 go_enter Tryz.func3,Tryz.ntmps3
 go_wp2_with (fail)
 clear hW1
 refine HAW.out.mono ?_
 rintro r w2 ⟨rfl,hb2⟩
 have B2:=Lib.hid (hb2.mono (Nat.le_of_eq hz1.symm))
 obtain ⟨⟨l1,_⟩,p1,_,_,z2⟩:=HK.out w2 B2.out
 have G1:=Lib.hid (greatP_any p1 (by omega) HX.out)
 clear p1 hb2 HAW hz1
 go_wp2_with (fail)
 clear l1
 refine G1.out.mono ?_
 rintro r w3 ⟨g1,rfl,hg1,hb3⟩
 have HG1:=Lib.hid hg1
 have B3:=Lib.hid (B2.out.trans (hb3.mono (by omega)))
 obtain ⟨⟨_,l2⟩,_,p2,bw3,z3⟩:=HK.out w3 B3.out
 have G2:=Lib.hid (greatP_any p2 (by omega) HX'.out)
 clear p2 bw3 hb3 hg1 G1
 go_wp2_with (fail)
 clear l2
 refine G2.out.mono ?_
 rintro r w4 ⟨g2,rfl,hg2,hb4⟩
 have HG2:=Lib.hid hg2
 have B4:=Lib.hid (B3.out.trans (hb4.mono (by omega)))
 obtain ⟨⟨l1,_⟩,p1,_,bw4,z4⟩:=HK.out w4 B4.out
 have BW4:=Lib.hid bw4
 clear hb4 hg2 G2 B2 B3
 cases g1 with
 |true=>
  go_wp2
  go_ret
  exact ⟨rfl,BW4.out⟩
 |false=>
 cases g2 with
 |true=>
  go_wp2
  go_ret
  exact ⟨rfl,BW4.out⟩
 |false=>
 have L1:=Lib.hid (lentP_any p1 (by omega) (HG1.out (by first|rfl|trivial)))
 clear p1 bw4
 go_wp2_with (fail)
 clear l1
 refine L1.out.mono ?_
 rintro r w5 ⟨s1,m1,rfl,o1,q1,hb5⟩
 have B5:=Lib.hid (B4.out.trans (hb5.mono z4))
 obtain ⟨V1,V2,hV1,st1,kx,kb2,kz2⟩:=box_perf w5 (p:=p) o1
 have z5:w.heap.size+2≤w5.heap.size:=by have:=hb5.size;omega
 have BV2:=Lib.hid (B5.out.trans (kb2.mono z5))
 obtain ⟨⟨_,l2⟩,_,p2,_,zV⟩:=HK.out V2 BV2.out
 have L2:=Lib.hid (lentP_any p2 (by omega) (HG2.out (by first|rfl|trivial)))
 have P1:=Lib.hid (show PLent w5 N n w4.heap.size w5.heap.size p s1 m1∧Cells V2 w5.heap.size 0 (p.cells s1)∧Below w5.heap.size w5 V2∧V2.heap.size=w5.heap.size+1∧w4.heap.size≤w5.heap.size from ⟨q1,kx,kb2,kz2,hb5.size⟩)
 clear p2 q1 kx kb2 kz2 hb5 o1 L1
 go_wp2_with (fail)
 clear l2 hV1 st1
 refine L2.out.mono ?_
 rintro r w6 ⟨s2,m2,rfl,o2,q2,hb6⟩
 have B6:=Lib.hid (BV2.out.trans (hb6.mono zV))
 obtain ⟨V3,V4,hV3,st3,ky,kb4,kz4⟩:=box_perf w6 (p:=q) o2
 obtain ⟨q1,kx,kb2,kz2,zz⟩:=P1.out
 have z6:=hb6.size
 have BV4:=Lib.hid (B6.out.trans (kb4.mono (by omega)))
 have q1':PLent V4 N n w4.heap.size w5.heap.size p s1 m1:=((q1.below (Nat.le_refl _) kb2).apart (x:=V2.heap.size) (y:=V2.heap.size) (Apart.of_below hb6 (Nat.le_refl _)) (by omega) (.inl (by omega))).apart (x:=w6.heap.size) (y:=w6.heap.size) (Apart.of_below kb4 (Nat.le_refl _)) (by omega) (.inl (by omega))
 have q2':PLent V4 N n V2.heap.size w6.heap.size q s2 m2:=q2.below (Nat.le_refl _) kb4
 have kx':Cells V4 w5.heap.size 0 (p.cells s1):=(kx.below hb6 (by omega)).below kb4 (by omega)
 have HZ:Hid (w4.heap.size≤w5.heap.size∧V2.heap.size=w5.heap.size+1∧V2.heap.size≤w6.heap.size∧V4.heap.size=w6.heap.size+1∧w.heap.size+2≤w4.heap.size):=⟨zz,kz2,z6,kz4,z4⟩
 have HA:Hid (∀ v,Apart w4.heap.size w5.heap.size V4 v→((Instr.loadAt 36 (.pointer (some ⟨w5.heap.size,0,none⟩))).run Tryz.prog v= .ok (p.agg s1) v∧(Instr.loadAt 36 (.pointer (some ⟨w6.heap.size,0,none⟩))).run Tryz.prog v= .ok (q.agg s2) v)∧((Instr.loadAt 36 (.pointer (some ⟨w.heap.size,0,none⟩))).run Tryz.prog v= .ok (p.agg s) v∧(Instr.loadAt 36 (.pointer (some ⟨w.heap.size+1,0,none⟩))).run Tryz.prog v= .ok (q.agg s') v)∧PAt w.heap.size N n v p s∧PAt w.heap.size N n v q s'∧PLent v N n V2.heap.size w6.heap.size q s2 m2∧Below (w.heap.size+2) W1 v∧V4.heap.size≤v.heap.size):=fun v hv=>by
  have hB:Below (w.heap.size+2) W1 v:=BV4.out.trans (hv.below (by omega) (by omega))
  obtain ⟨a1,a2,a3,a4,a5⟩:=HK.out v hB
  exact ⟨⟨load_perf (kx'.apart hv (by omega) (.inr (by omega))),load_perf (ky.apart hv (by omega) (.inr (by omega)))⟩,a1,a2,a3,q2'.apart hv (by omega) (.inr (by omega)),hB,hv.size⟩
 have HL:Hid (∀ v,Below V4.heap.size V4 v→PLent v N n w4.heap.size w5.heap.size p s1 m1):=fun v hv=>q1'.below (by omega) hv
 clear q1 q2 q1' q2' kx kx' ky kb2 kb4 kz2 kz4 hb6 z6 zz o2 L2 P1 zV z5
 obtain ⟨E,hE⟩:∃ E,eqP p q=E:=⟨_,rfl⟩
 have HE:=Lib.hid hE
 have HE':Hid (eqP q p=E):=(eqP_symm q p).trans hE
 clear hE
 have BB0:Hid (Below V4.heap.size V4 V4):=Below.refl _ _
 obtain ⟨⟨lx,ly⟩,⟨lp,lq⟩,o1,o2,ql,bw,zv⟩:=HA.out V4 (Apart.of_below BB0.out (Nat.le_refl _))
 have pl:=HL.out V4 BB0.out
 have hz:=HZ.out
 have vx:=pl.pat (B:=V4.heap.size) (by omega)
 have vy:=ql.pat (B:=V4.heap.size) (by omega)
 have SS0:=Lib.hid (psameP_any vx vy (by omega))
 rw [HE.out] at SS0
 clear o1 o2 ql bw pl vx vy hz
 go_wp2_with (fail)
 clear lx ly lp lq hV3 st3
 refine SS0.out.mono ?_
 rintro r x0 ⟨rfl,hb⟩
 have BB1:Hid (Below V4.heap.size V4 x0):=BB0.out.trans (hb.mono zv)
 clear hb SS0 BB0 zv
 obtain ⟨⟨lx,ly⟩,⟨lp,lq⟩,o1,o2,ql,bw,zv⟩:=HA.out x0 (Apart.of_below BB1.out (Nat.le_refl _))
 have pl:=HL.out x0 BB1.out
 have hz:=HZ.out
 have vx:=pl.pat (B:=V4.heap.size) (by omega)
 have vy:=ql.pat (B:=V4.heap.size) (by omega)
 have SS1:=Lib.hid (psameP_any vy vx (by omega))
 rw [HE'.out] at SS1
 clear o1 o2 ql bw pl vx vy hz
 go_wp2_with (fail)
 clear lx ly lp lq
 refine SS1.out.mono ?_
 rintro r x1 ⟨rfl,hb⟩
 have BB2:Hid (Below V4.heap.size V4 x1):=BB1.out.trans (hb.mono zv)
 clear hb SS1 BB1 zv
 obtain ⟨⟨lx,ly⟩,⟨lp,lq⟩,o1,o2,ql,bw,zv⟩:=HA.out x1 (Apart.of_below BB2.out (Nat.le_refl _))
 have pl:=HL.out x1 BB2.out
 have hz:=HZ.out
 have vx:=pl.pat (B:=V4.heap.size) (by omega)
 have vy:=ql.pat (B:=V4.heap.size) (by omega)
 have SS2:=Lib.hid (psameP_any vx vx (by omega))
 rw [eqP_refl] at SS2
 clear o1 o2 ql bw pl vx vy hz
 go_wp2_with (fail)
 clear lx ly lp lq
 refine SS2.out.mono ?_
 rintro r x2 ⟨rfl,hb⟩
 have BB3:Hid (Below V4.heap.size V4 x2):=BB2.out.trans (hb.mono zv)
 clear hb SS2 BB2 zv
 obtain ⟨⟨lx,ly⟩,⟨lp,lq⟩,o1,o2,ql,bw,zv⟩:=HA.out x2 (Apart.of_below BB3.out (Nat.le_refl _))
 have pl:=HL.out x2 BB3.out
 have hz:=HZ.out
 have vx:=pl.pat (B:=V4.heap.size) (by omega)
 have vy:=ql.pat (B:=V4.heap.size) (by omega)
 have SS3:=Lib.hid (psameP_any (o1.up (by omega)) vx (by omega))
 rw [eqP_refl] at SS3
 clear o1 o2 ql bw pl vx vy hz
 go_wp2_with (fail)
 clear lx ly lp lq
 refine SS3.out.mono ?_
 rintro r x3 ⟨rfl,hb⟩
 have BB4:Hid (Below V4.heap.size V4 x3):=BB3.out.trans (hb.mono zv)
 clear hb SS3 BB3 zv
 obtain ⟨⟨lx,ly⟩,⟨lp,lq⟩,o1,o2,ql,bw,zv⟩:=HA.out x3 (Apart.of_below BB4.out (Nat.le_refl _))
 have hz:=HZ.out
 have K1:=Lib.hid (asLentP_any (HL.out x3 BB4.out) o1 (by omega) (by omega))
 clear o1 o2 ql bw hz
 go_wp2_with (fail)
 clear lx ly lp lq
 refine K1.out.mono ?_
 rintro r x4 ⟨rfl,ha⟩
 have A4:Hid (Apart w4.heap.size w5.heap.size V4 x4):=(Apart.of_below BB4.out (Nat.le_refl _)).trans ha
 clear ha K1 BB4 zv HL
 obtain ⟨⟨lx,ly⟩,⟨lp,lq⟩,o1,o2,ql,bw,zv⟩:=HA.out x4 A4.out
 have hz:=HZ.out
 have K2:=Lib.hid (asLentP_any ql o2 (by omega) (by omega))
 have BW4':=Lib.hid bw
 have ZV:=Lib.hid zv
 clear o1 o2 ql bw hz zv
 go_wp2_with (fail)
 clear lx ly lp lq
 refine K2.out.mono ?_
 rintro r x5 ⟨rfl,ha⟩
 have B5':Hid (Below (w.heap.size+2) W1 x5):=BW4'.out.trans (ha.below (by have:=HZ.out;omega) (by have:=HZ.out;have:=ZV.out;omega))
 clear ha K2 HA A4
 obtain ⟨⟨lp,lq⟩,o1,o2,bw,zv⟩:=HK.out x5 B5'.out
 have BWX:=Lib.hid bw
 have R1:=Lib.hid (rsameP_any o1 o2 (by omega))
 rw [HE.out] at R1
 clear o1 o2 bw
 go_wp2_with (fail)
 clear lp lq
 refine R1.out.mono ?_
 rintro r x6 ⟨rfl,hb⟩
 have BWY:Hid (Below w.heap.size w x6):=BWX.out.trans (hb.mono (by omega))
 clear hb R1
 go_wp2
 go_ret
 exact ⟨by simp,BWY.out⟩
end
theorem readable:∀ t∈[36,36],Tryz.prog.readableRec t=true∧t<Tryz.prog.types.size:=by
 intro t ht
 simp only [List.mem_cons,List.not_mem_nil,or_false,or_self] at ht
 subst ht
 exact ⟨by kernel_rfl,of_decide_eq_true (by kernel_rfl)⟩
theorem gSpace:Tryz.prog.globalNamed "strings.asciiSpace" =some 0:=by kernel_rfl
theorem spaceData:(Rows.laid_strings_asciiSpace:DataW Unit)=Lib.tabData .u8 Lib.asciiSpaceTab:=by kernel_rfl
theorem listS:("strings.asciiSpace",Lib.tabData .u8 Lib.asciiSpaceTab)∈Rows.performSamesRow.laid:=by
 rw [←spaceData]
 exact .tail _ (.tail _ (.head _))
theorem below_trodAll {H:Type} {enc:TypeId×Value→H} {P:Program} (hl:laidOutB P=true) {W W':World} (hb:Below W.heap.size W W'):
 ∀ {ts:List TypeId} {vs:List Value} {ds:List (DataW H)} {ps:List MemPlace},(∀ t∈ts,P.readableRec t=true∧t<P.types.size)→DataW.TrodAll enc P W 0 (fun _=>true) true ts vs ds ps→(∀ x∈ps,x.block<W.heap.size)→
   DataW.TrodAll enc P W' 0 (fun b=>decide (b<W.heap.size)) true ts vs ds ps
 |[],[],[],_,_,h,_=>h
 |[],[],_::_,_,_,h,_=>h.elim
 |[],_::_,_,_,_,h,_=>h.elim
 |_::_,[],_,_,_,h,_=>h.elim
 |_::_,_::_,[],_,_,h,_=>h.elim
 |t::ts,v::vs,d::ds,ps,ht,⟨p,q,h1,h2,e⟩,hlt=>by
  subst e
  exact ⟨p,q,Below.trod hl (ht t (by simp)).1 (ht t (by simp)).2 h1 hb (fun x hx=>hlt x (List.mem_append_left _ hx)),below_trodAll hl hb (fun x hx=>ht x (List.mem_cons_of_mem _ hx)) h2 (fun x hx=>hlt x (List.mem_append_right _ hx)),rfl⟩
theorem lifted (os:Os) (started:os.Started) (H:Type) (enc:TypeId×Value→H):
 ReturnsInHanded {} Tryz.checked os 3 .any (fun w args=>(Rows.performSamesSpec.pre enc Tryz.prog Tryz.f3 Rows.performSamesRow.domain false w args∧laidMetH Tryz.prog Rows.performSamesRow.laid w)∧sizedMet enc Tryz.prog Tryz.f3 (OpenSpec.ofChange Rows.performSamesSpec) false w args)
  (Rows.performSamesSpec.post enc Tryz.prog Tryz.f3 false true false false):=by
 refine returnsInHanded_of_change_and (C:=Tryz.checked) (X:=fun w _=>laidMetH Tryz.prog Rows.performSamesRow.laid w) (fun _ _ _ hh h=>h.of_heap hh) fact_own started (by kernel_rfl) Tryz.func3
  (ChangeSpec.witness_shaped (enc:=enc) (C:=Tryz.checked) (os:=os) (X:=fun w _=>laidMetH Tryz.prog Rows.performSamesRow.laid w) false (World.laidAll Tryz.prog os Rows.performSamesRow.laid) #[PT.agg zeroPT nilPS,PT.agg zeroPT nilPS] 8 (World.laidAll_os _ _ _)
    (World.shaped_of_ZipB (by kernel_rfl) (by kernel_rfl)) (by kernel_rfl) (by kernel_rfl) (by kernel_rfl)
    (by rw [MakeChecks.laidMetH_plain _ _ _ (by kernel_rfl)];exact laidMet_laidAll _ (by kernel_rfl) (by kernel_rfl))) ?_
 intro W base args ds gs before hval0 hW _ hsz hL _
 have hval:∀ (j:Nat) t v,Tryz.f3.params[j]? =some t→args[j]? =some v→Value.okWide Tryz.prog W .any base t v:=hval0
 have hW':=hW
 obtain ⟨p,q,hA0,hV,rfl,_,_⟩:=hW
 have hA:DataW.TrodAll enc Tryz.prog W 0 (fun _=>true) true Tryz.f3.params.toList args.toList ds p:=hA0
 have hlt:∀ x∈p,x.block<W.heap.size:=fun x hx=>hW'.lt x (List.mem_append_left _ hx)
 rw [Tryz.params3] at hA hval
 have hargs:=fun (W':World) (hb:Below W.heap.size W W')=>below_trodAll fact_laidOut hb (ts:=[36,36]) readable hA hlt
 obtain ⟨v0,v1,d0,d1,p0,p1,rfl,rfl,rfl,h0,h1⟩:=trodAll_two hA
 obtain ⟨rfl,rfl⟩:=trodVars_none hV
 obtain ⟨n0,p0',s,e0,hs,ml0⟩:=open_argP (hval 0 36 v0 rfl rfl) h0
 obtain ⟨n1,p1',s',e1,hs',ml1⟩:=open_argP (hval 1 36 v1 rfl rfl) h1
 subst e0 e1
 have hx0:PTx p0':=perform_sized hsz (j:=0) rfl rfl ml0
 have hx1:PTx p1':=perform_sized hsz (j:=1) rfl rfl ml1
 clear hA0
 simp only [List.append_nil] at hW'
 rw [MakeChecks.laidMetH_plain _ _ _ (by kernel_rfl)] at hL
 obtain ⟨tt,hsp⟩:=CE.laid_block hL listS (by rw [Lib.asciiSpaceTab_length];decide) gSpace (t:=217) (e:=5) (n:=256) (by kernel_rfl) (by kernel_rfl) (by kernel_rfl) (by kernel_rfl) (by kernel_rfl)
 refine (walk_raw p0' p1' s s' W (hs.mono (Nat.le_add_right n0 n1) (Nat.le_add_right n0 n1)) (hs'.mono (Nat.le_add_left n1 n0) (Nat.le_add_left n1 n0)) hx0 hx1 hsp).mono fun e W' ⟨he,hg⟩=>?_
 subst he
 exact ⟨_,rfl,_,_,_,[],_,[],hW',trodAll_mk1 (shut_bool Tryz.underlying4 _),hargs W' hg,rfl,hg.frame _,fun h=>by cases h⟩
theorem and2 {a b:Bool} (ha:a=true) (hb:b=true):(a&&b)=true:=by rw [ha,hb];rfl
theorem closed:joinedFacts Tryz.prog 3 Tryz.f3 Rows.performSamesSpec Rows.performSamesRow=true:=by
 unfold joinedFacts
 exact and2 (and2 (and2 (and2 (and2 (and2 (and2 (and2 (and2 (and2 (and2 (and2 (and2 (and2 (and2 (and2 (and2 (and2 (and2 (and2 (and2 (and2 (and2 (and2 (and2 (and2 (and2 (and2 (and2 (and2 (and2 fact_wf fact_laidOut) fact_mapsRowed) fact_paramsR) fact_namedT) fact_stops1) fact_stops2) fact_knobs1) fact_knobs2) fact_inPlace) fact_unf) fact_recu) fact_named) fact_maps) fact_ifaces) fact_mapsOut) fact_loops) fact_wideK) fact_varsR) fact_resR) fact_ifacesOut) fact_loopsOut) fact_plainK) fact_short) fact_heard) fact_enter) fact_lifts) fact_make) (by kernel_rfl)) fact_pinned) fact_veiled) fact_veiledF
theorem over:Rows.PerformSamesSaid:=
 OpenClaim.holds_of_wide 3 Tryz.f3 rfl rfl rfl rfl rfl rfl rfl ⟨rfl,rfl,rfl,rfl,rfl⟩ rfl rfl rfl rfl rfl fact_funcN Tryz.func3 closed
  (of_decide_eq_true fact_inst) (by unfold Func.isWrapper;first|(rw [if_pos (by decide+kernel)];kernel_rfl)|(rw [if_neg (by decide+kernel)];exact ⟨rfl,rfl⟩))
  (fun os started H enc _=>lifted os started H enc)
theorem card_holds:Rows.PerformSamesCardSaid:=
 Claim7.holds_tied_plain_at .later [] [.data,.listed,.data,.pinned] true (true, "4b95278ca09441604a24093619919e4e21d3d96d140c783030c9bee40f2bd32e") true over (fun _ h=>by cases h) fact_wfText (fun _ h=>by cases h) performSames_row_tie rfl ⟨rfl,rfl⟩ fact_mainIs rfl
  (fun f fn hf hfn=>by
    obtain rfl:f=3:=Option.some.inj (fact_funcN.symm.trans hf)|>.symm
    obtain rfl:fn=Tryz.f3:=(Option.some.inj (Tryz.func3.symm.trans hfn)).symm
    exact ⟨fact_looks,fun j t ht=>by
     rw [Tryz.params3] at ht
     have hm:t∈[36,36]:=by simpa using Array.mem_of_getElem? ht
     have hall:([36,36].all fun u=> !Tryz.prog.wantsStandIn u)=true:=by kernel_rfl
     exact (show Tryz.prog.wantsStandIn t=false by simpa using List.all_eq_true.1 hall t hm)⟩)
  fact_goes
#print axioms card_holds
end Go.Proofs.YtfjlnfogbfmpiaaGreatDoor.performSames
