/-
  The texts TM of this claim, one behind the other.
-/
import Derived.Test.YtfjlnfogbfmpiaaGreatDoorZPSB3
import Derived.Test.YtfjlnfogbfmpiaaGreatDoorZPSB4
import Derived.Test.YtfjlnfogbfmpiaaGreatDoorZPSA1
import Derived.Deep.RegionHeldLaw
import Derived.Deep.AppendLies
import Derived.Maps.AppendAt
import Derived.OwnWalk
import Derived.Deep.CutBlock
namespace Go.Proofs.YtfjlnfogbfmpiaaGreatDoor.Va
open Go Go.RowKit Nu
attribute [-go_sem] Go.Instr.storeAt Go.Instr.loadAt
theorem infoVG:(Tryz.prog.info? 25).map (fun i=>(i.zero,i.size,i.bytes))=some (some (.agg #[.int .i64 0,.int .u64 0,.string ⟨#[]⟩,.slice none 0 0,.int .i64 0]),5,64):=by kernel_rfl
theorem infoSG:(Tryz.prog.info? 30).map (fun i=>(i.zero,i.size,i.bytes))=some (some (.agg ((zeroS 0).cells nilV nilV nilV).toArray),19,232):=by kernel_rfl
theorem bytes_ok {q:Nat} (h:q<10000):q+1≤maxLen∧(q+1)*232≤140737488355328:=⟨by unfold maxLen;omega,by omega⟩
theorem bytes_ok3 {j:Nat} (h:j<5000):j+3+1≤maxLen∧(j+3+1)*232≤140737488355328:=⟨by unfold maxLen;omega,by omega⟩
theorem bytes_ok2 {i:Nat} (h:i<5000):2+2*i+2≤maxLen∧(2+2*i+2)*64≤140737488355328:=⟨by unfold maxLen;omega,by omega⟩
theorem box1 {w W1:World} {cs:List Value} {T:TypeId} (h:w.alloc (.cells cs.toArray T)=W1):Cells W1 w.heap.size 0 cs∧W1.heap.size=w.heap.size+1∧Below w.heap.size w W1:=by
 subst h
 refine ⟨fun j u hu=>?_,heap_alloc_size _ _,(Below.refl _ _).alloc (Nat.le_refl _) _⟩
 rw [Nat.zero_add,World.cell?_alloc_new]
 simpa using hu
theorem news_of {V:World} {b:Nat} {cs:List Value} (h:Cells V b 0 cs):∀ j u,cs[j]? =some u→V.cell? ((⟨b,0,none⟩:Addr).add j)=some u:=fun j u hu=>by
 rw [Addr.add_mid];exact h j u hu
theorem one_sx (s:ST) (a1 a2 a3:Option Addr) (n1 c1 n2 c2 n3 c3:Nat):∀ u∈(SX.mk s (.slice a1 n1 c1) (.slice a2 n2 c2) (.slice a3 n3 c3)).cells,u.oneCell'=true:=fun u hu=>by
 have:=one_st s (il:= .slice a1 n1 c1) (al:= .slice a2 n2 c2) (lv:= .slice a3 n3 c3) rfl rfl rfl
 exact List.all_eq_true.1 this u hu
theorem one_sx' {x:SX} {B N n:Nat} {w:World} (h:x.ok B N n w):∀ u∈x.cells,u.oneCell'=true:=by
 obtain ⟨s,il,al,lv⟩:=x
 obtain ⟨_,h1,h2,h3⟩:=h
 change LAt B w N il s.info.list at h1
 change LAt B w N al s.ann.list at h2
 change SAt B N w n lv s.inner at h3
 obtain ⟨_,_,rfl⟩:=h1.slice
 obtain ⟨_,_,rfl⟩:=h2.slice
 obtain ⟨_,_,rfl⟩:=h3.slice
 exact one_sx _ _ _ _ _ _ _ _ _ _
theorem vlat_one {B N:Nat} {w:World} {t:VT} {lv:Value} (h:LAt B w N lv t.list):∀ u∈t.cells lv,u.oneCell'=true:=by
 obtain ⟨_,_,rfl⟩:=h.slice
 exact vt_one _ _ _ _
theorem two_one {B N:Nat} {w:World} {a b:VT} {av bv:Value} (h:LAt B w N av a.list) (h':LAt B w N bv b.list):∀ u∈cellsL [(a,av),(b,bv)],u.oneCell'=true:=fun u hu=>by
 have e:cellsL [(a,av),(b,bv)]=a.cells av++b.cells bv:=by simp [cellsL]
 rw [e] at hu
 rcases List.mem_append.1 hu with hu|hu
 ·exact vlat_one h u hu
 ·exact vlat_one h' u hu
theorem sat_kid {B N n:Nat} {w:World} {lv:Value} {ss:List ST} (h:SAt B N w n lv ss) {k:Nat} {y:ST} (hy:ss[k]? =some y):∃ b off c il al kv,lv= .slice (some ⟨b,off,none⟩) ss.length c∧b<B∧Cells w b (off+k*19) (y.cells il al kv)∧(SX.mk y il al kv).ok B N n w:=by
 cases n with
 |zero=>exact h.elim
 |succ n=>
  rcases h with ⟨rfl,_⟩|⟨b,off,c,h1,h2,_,h4⟩
  ·simp at hy
  ·obtain ⟨hf,il,al,kv,hc,hi,ha,hl⟩:=h4 k y hy
   exact ⟨b,off,c,il,al,kv,h1,h2,hc,hf,hi,ha,hl.mono (Nat.le_refl _) (Nat.le_succ _)⟩
theorem sx_text {x:SX} {w:World} {g o:Nat} (h:Cells w g o x.cells):Cells w g (o+12) (x.s.ann.cells x.al)∧Cells w g (o+5) (x.s.info.cells x.il)∧w.cell? ⟨g,o+18,none⟩=some x.lv:=
 ⟨cells_ann (s:=x.s) (il:=x.il) (al:=x.al) (lv:=x.lv) h,cells_infoV (s:=x.s) (il:=x.il) (al:=x.al) (lv:=x.lv) h,h 18 _ rfl⟩
set_option maxRecDepth 100000 in
set_option maxHeartbeats 8000000 in
theorem greatP_any {B N n:Nat} {p:PT} {s:PS} {w:World} (h:PAt B N n w p s) (hB:B≤w.heap.size) (hx:PTx p):
 Calls Tryz.prog 5 #[p.agg s] w fun r w'=>∃ b,r= .returned (.bool b)∧(b=false→PSm p)∧Below w.heap.size w w':=by
 obtain ⟨W1,hW1⟩:∃ W1,w.alloc (.cells (p.cells s).toArray 36)=W1:=⟨_,rfl⟩
 obtain ⟨hc1,hz1,hb1⟩:=box1 (cs:=p.cells s) hW1
 obtain ⟨W2,hW2⟩:∃ W2,W1.alloc (.cells #[.int .i64 p.props.kind,.int .u64 p.props.num,.string p.props.text,s.pl,.int .i64 p.props.elem,.int .i64 p.info.kind,.int .u64 p.info.num,.string p.info.text,s.fl,.int .i64 p.info.elem] 25)=W2:=⟨_,rfl⟩
 obtain ⟨W3,hW3⟩:∃ W3,W2.alloc (.cells #[.int .i64 p.state.kind,.int .i64 p.state.section_,.int .i64 p.state.offset,.string p.state.cond,.string p.state.text,.int .i64 p.state.info.kind,.int .u64 p.state.info.num,.string p.state.info.text,s.xil,.int .i64 p.state.info.elem,.bool p.state.failed,.bool p.state.elsewhere,.int .i64 p.state.ann.kind,.int .u64 p.state.ann.num,.string p.state.ann.text,s.xal,.int .i64 p.state.ann.elem,.string p.state.txn,s.xlv,.int .i64 p.src.dflt.kind,.int .i64 p.src.dflt.section_,.int .i64 p.src.dflt.offset,.string p.src.dflt.cond,.string p.src.dflt.text,.int .i64 p.src.dflt.info.kind,.int .u64 p.src.dflt.info.num,.string p.src.dflt.info.text,s.ss.il,.int .i64 p.src.dflt.info.elem,.bool p.src.dflt.failed,.bool p.src.dflt.elsewhere,.int .i64 p.src.dflt.ann.kind,.int .u64 p.src.dflt.ann.num,.string p.src.dflt.ann.text,s.ss.al,.int .i64 p.src.dflt.ann.elem,.string p.src.dflt.txn,s.ss.lv,.int .i64 p.tgt.dflt.kind,.int .i64 p.tgt.dflt.section_,.int .i64 p.tgt.dflt.offset,.string p.tgt.dflt.cond,.string p.tgt.dflt.text,.int .i64 p.tgt.dflt.info.kind,.int .u64 p.tgt.dflt.info.num,.string p.tgt.dflt.info.text,s.ts.il,.int .i64 p.tgt.dflt.info.elem,.bool p.tgt.dflt.failed,.bool p.tgt.dflt.elsewhere,.int .i64 p.tgt.dflt.ann.kind,.int .u64 p.tgt.dflt.ann.num,.string p.tgt.dflt.ann.text,s.ts.al,.int .i64 p.tgt.dflt.ann.elem,.string p.tgt.dflt.txn,s.ts.lv] 30)=W3:=⟨_,rfl⟩
 have hz2:W2.heap.size=W1.heap.size+1:=by rw [←hW2];exact heap_alloc_size _ _
 have hz3:W3.heap.size=W2.heap.size+1:=by rw [←hW3];exact heap_alloc_size _ _
 have hb2:Below W1.heap.size W1 W2:=by rw [←hW2];exact (Below.refl _ _).alloc (Nat.le_refl _) _
 have HPA:=Lib.hid ((h.below (hb1.mono hB)).up (by omega:B≤W1.heap.size))
 have HTX:=Lib.hid hx
 have HC1:Hid (∀ v,Below W1.heap.size W1 v→Cells v w.heap.size 0 (p.cells s)):=fun v hv=>hc1.below hv (by omega)
 have HB1:=Lib.hid hb1
 have HZ1:=Lib.hid hz1
 have HG0:Hid (GW W1.heap.size 30 25 N n W1 [⟨p.state,s.xil,s.xal,s.xlv⟩,⟨p.src.dflt,s.ss.il,s.ss.al,s.ss.lv⟩,⟨p.tgt.dflt,s.ts.il,s.ts.al,s.ts.lv⟩] [(p.props,s.pl),(p.info,s.fl)] (.slice (some ⟨W2.heap.size,0,none⟩) 3 3) (.slice (some ⟨W1.heap.size,0,none⟩) 2 2) W3):=by
  have:=GW.start (B:=W1.heap.size) (N:=N) (n:=n) (T1:=30) (T2:=25) (w0:=W1) (w:=W1) (xs:=[⟨p.state,s.xil,s.xal,s.xlv⟩,⟨p.src.dflt,s.ss.il,s.ss.al,s.ss.lv⟩,⟨p.tgt.dflt,s.ts.il,s.ts.al,s.ts.lv⟩]) (ys:=[(p.props,s.pl),(p.info,s.fl)]) (cs:=#[.int .i64 p.props.kind,.int .u64 p.props.num,.string p.props.text,s.pl,.int .i64 p.props.elem,.int .i64 p.info.kind,.int .u64 p.info.num,.string p.info.text,s.fl,.int .i64 p.info.elem]) (ds:=#[.int .i64 p.state.kind,.int .i64 p.state.section_,.int .i64 p.state.offset,.string p.state.cond,.string p.state.text,.int .i64 p.state.info.kind,.int .u64 p.state.info.num,.string p.state.info.text,s.xil,.int .i64 p.state.info.elem,.bool p.state.failed,.bool p.state.elsewhere,.int .i64 p.state.ann.kind,.int .u64 p.state.ann.num,.string p.state.ann.text,s.xal,.int .i64 p.state.ann.elem,.string p.state.txn,s.xlv,.int .i64 p.src.dflt.kind,.int .i64 p.src.dflt.section_,.int .i64 p.src.dflt.offset,.string p.src.dflt.cond,.string p.src.dflt.text,.int .i64 p.src.dflt.info.kind,.int .u64 p.src.dflt.info.num,.string p.src.dflt.info.text,s.ss.il,.int .i64 p.src.dflt.info.elem,.bool p.src.dflt.failed,.bool p.src.dflt.elsewhere,.int .i64 p.src.dflt.ann.kind,.int .u64 p.src.dflt.ann.num,.string p.src.dflt.ann.text,s.ss.al,.int .i64 p.src.dflt.ann.elem,.string p.src.dflt.txn,s.ss.lv,.int .i64 p.tgt.dflt.kind,.int .i64 p.tgt.dflt.section_,.int .i64 p.tgt.dflt.offset,.string p.tgt.dflt.cond,.string p.tgt.dflt.text,.int .i64 p.tgt.dflt.info.kind,.int .u64 p.tgt.dflt.info.num,.string p.tgt.dflt.info.text,s.ts.il,.int .i64 p.tgt.dflt.info.elem,.bool p.tgt.dflt.failed,.bool p.tgt.dflt.elsewhere,.int .i64 p.tgt.dflt.ann.kind,.int .u64 p.tgt.dflt.ann.num,.string p.tgt.dflt.ann.text,s.ts.al,.int .i64 p.tgt.dflt.ann.elem,.string p.tgt.dflt.txn,s.ts.lv]) (Nat.le_refl _) (Below.refl _ _) rfl rfl (by show 3≤maxLen;decide) (by show 2≤maxLen;decide) (fun x hx=>by
   simp only [List.mem_cons,List.not_mem_nil,or_false] at hx
   rcases hx with rfl|rfl|rfl
   ·exact ⟨HPA.out.sf,HPA.out.si,HPA.out.sa,HPA.out.sl⟩
   ·exact ⟨HPA.out.src.fine,HPA.out.src.info,HPA.out.src.ann,HPA.out.src.inner⟩
   ·exact ⟨HPA.out.tgt.fine,HPA.out.tgt.info,HPA.out.tgt.ann,HPA.out.tgt.inner⟩) (fun y hy=>by
   simp only [List.mem_cons,List.not_mem_nil,or_false] at hy
   rcases hy with rfl|rfl
   ·exact ⟨HPA.out.pf,HPA.out.props⟩
   ·exact ⟨HPA.out.if_,HPA.out.info⟩)
  rw [hW2,hW3,←hz2] at this
  exact this
 obtain ⟨qu,cu,hqu⟩:=h.uns.slice
 obtain ⟨m,hm⟩:∃ m,p.uns.length=m:=⟨_,rfl⟩
 have HM:=Lib.hid hm
 have hmx:m≤9223372036854775807:=by rw [←hm];obtain ⟨_,_,_,h2,_⟩:=h.uns;exact h2
 rw [hm] at hqu
 have HQU:=Lib.hid hqu
 have a1:(Instr.loadAt 25 (.pointer (some ⟨w.heap.size,6,none⟩))).run Tryz.prog W1= .ok (p.props.agg s.pl) W1:=by have hx:=cells_pprops (o:=0) hc1;exact load_value (o:=6) hx
 have a2:(Instr.loadAt 25 (.pointer (some ⟨w.heap.size,121+2,none⟩))).run Tryz.prog W1= .ok (p.info.agg s.fl) W1:=by have hx:=cells_pinfo (o:=0) hc1;exact load_value (o:=123) hx
 have b1:(Instr.loadAt 30 (.pointer (some ⟨w.heap.size,99,none⟩))).run Tryz.prog W2= .ok (p.state.agg s.xil s.xal s.xlv) W2:=by have hx:=cells_pstate (o:=0) (HC1.out W2 hb2);exact load_state (o:=99) hx
 have b2:(Instr.loadAt 30 (.pointer (some ⟨w.heap.size,22+8,none⟩))).run Tryz.prog W2= .ok (p.src.dflt.agg s.ss.il s.ss.al s.ss.lv) W2:=by have hx:=cells_psrc (o:=0) (HC1.out W2 hb2);exact load_state (o:=30) (cells_tstate hx)
 have b3:(Instr.loadAt 30 (.pointer (some ⟨w.heap.size,51+8,none⟩))).run Tryz.prog W2= .ok (p.tgt.dflt.agg s.ts.il s.ts.al s.ts.lv) W2:=by have hx:=cells_ptgt (o:=0) (HC1.out W2 hb2);exact load_state (o:=59) (cells_tstate hx)
 have HL80:Hid (∀ v,Below W1.heap.size W1 v→(Instr.loadAt 34 (.pointer (some ⟨w.heap.size,80,none⟩))).run Tryz.prog v= .ok (.slice qu m cu) v):=fun v hv=>by have hx:=cells_puns (o:=0) (HC1.out v hv);rw [HQU.out] at hx;exact load_unss hx
 clear h hB hx hc1 hb1 hz1 hz2 hz3 hb2 hm hqu
 go_enter Tryz.func5,Tryz.ntmps5
 go_upto_block 0 with (fail)
 clear a1 a2 b1 b2 b3 hW1 hW2 hW3
 obtain ⟨iS,hS0,hS1,hS2,hS3⟩:=info_parts infoSG
 obtain ⟨iV,hV0,hV1,hV2,hV3⟩:=info_parts infoVG
 go_cut [5,6] from 25 to 44 (fun sv iv wx=>∃ (j:Nat) (Q:List SX),iv= .int .i64 j∧Hid (m<5000→j=m)∧Q.length≤10000∧j≤5000∧Hid (Q.map SX.s=[p.state,p.src.dflt,p.tgt.dflt]++(p.uns.take j).map Prod.snd)∧Hid (GW W1.heap.size 30 25 N n W1 Q [(p.props,s.pl),(p.info,s.fl)] sv (.slice (some ⟨W1.heap.size,0,none⟩) 2 2) wx))
 case first=>
  go_wp2
  go_loopw [5,6] (fun sv iv wr=>∃ (j:Nat) (Q:List SX),iv= .int .i64 j∧j≤m∧j≤5000∧Hid (Q.map SX.s=[p.state,p.src.dflt,p.tgt.dflt]++(p.uns.take j).map Prod.snd)∧Hid (GW W1.heap.size 30 25 N n W1 Q [(p.props,s.pl),(p.info,s.fl)] sv (.slice (some ⟨W1.heap.size,0,none⟩) 2 2) wr)) (fun _ iv _=>m-(intOf iv).toNat)
  case atStart=>exact ⟨0,[⟨p.state,s.xil,s.xal,s.xlv⟩,⟨p.src.dflt,s.ss.il,s.ss.al,s.ss.lv⟩,⟨p.tgt.dflt,s.ts.il,s.ts.al,s.ts.lv⟩],rfl,Nat.zero_le _,Nat.zero_le _,(by show List.map _ _=_;rfl),HG0.out⟩
  case round=>
   obtain ⟨j,Q,rfl,hj,hj5,HQ,HG⟩:=hrel
   have l80:=HL80.out wr HG.out.below
   have hqn:Q.length=j+3:=by
    have h1:=congrArg List.length HQ.out
    have h2:=HM.out
    rw [List.length_map,List.length_append,List.length_map,List.length_take,h2] at h1
    simp only [List.length_cons,List.length_nil] at h1
    omega
   have HQN:=Lib.hid hqn
   by_cases hE:j<m∧j<5000
   ·obtain ⟨hlt,h5⟩:=hE
    obtain ⟨t,ht⟩:∃ t,p.uns[j]? =some t:=⟨_,List.getElem?_eq_getElem (by rw [HM.out];exact hlt)⟩
    obtain ⟨q',d',hq',_,hel⟩:=HPA.out.uns
    obtain ⟨b0,off,il',al',lv',hp,hbB,hc,tf,hi',ha',hl'⟩:=hel j t ht
    rw [HM.out] at hq'
    have hqq:=HQU.out.symm.trans hq'
    simp only [Value.slice.injEq] at hqq
    obtain ⟨rfl, -,rfl⟩:=hqq
    subst hp
    have lst:=load_state (cells_ust (hc.below HG.out.below hbB))
    have hok:SX.ok W1.heap.size N n W1 ⟨t.2,il',al',lv'⟩:=⟨tf,hi',ha',hl'⟩
    have HOK:=Lib.hid hok
    obtain ⟨V,hV⟩:∃ V,wr.alloc (.cells #[.int .i64 t.2.kind,.int .i64 t.2.section_,.int .i64 t.2.offset,.string t.2.cond,.string t.2.text,.int .i64 t.2.info.kind,.int .u64 t.2.info.num,.string t.2.info.text,il',.int .i64 t.2.info.elem,.bool t.2.failed,.bool t.2.elsewhere,.int .i64 t.2.ann.kind,.int .u64 t.2.ann.num,.string t.2.ann.text,al',.int .i64 t.2.ann.elem,.string t.2.txn,lv'] 30)=V:=⟨_,rfl⟩
    obtain ⟨hnc,hzV,hbV⟩:=box1 (cs:=(SX.mk t.2 il' al' lv').cells) hV
    have hnews:=news_of hnc
    have HGV:=Lib.hid (HG.out.keep hbV)
    have hrow:=HGV.out.rowS
    rw [hqn] at hrow
    have hone:=one_sx' hok
    have hBV:=HGV.out.Bw
    have hHQ:Hid ((Q++[SX.mk t.2 il' al' lv']).map SX.s=[p.state,p.src.dflt,p.tgt.dflt]++(p.uns.take (j+1)).map Prod.snd):=by
     show _=_
     rw [List.map_append,HQ.out,List.take_add_one,ht]
     simp
    obtain ⟨sp,sc,rfl⟩:=HG.out.formS
    rw [hqn] at hrow ⊢
    have hlt1:(j:Int)<(m:Int):=by omega
    have hj0:(0:Int)≤(j:Int):=by omega
    have h51:(j:Int)<5000:=by omega
    obtain ⟨hmx1,hmb1⟩:=bytes_ok3 h5
    clear hel hc hi' ha' hl' tf hq' ht hok hnc hbV
    go_wp2_with (at_builtin;go_must (refine wpList_append_own_at _ rfl _ _ 28 rfl W1.heap.size 30 iS _ 19 232 Tryz.underlying28 hS0 hS1 hS2 hS3 rfl (by decide) (.slice sp (j+3) sc) (j+3) (cellsQ Q) rfl hrow ⟨wr.heap.size,0,none⟩ 1 1 (SX.mk t.2 il' al' lv').cells rfl rfl hnews hone hmx1 hmb1 hBV ?_;intro v' w6 hown6 hgrow6 hnil6 hat6))
    rw [←HQN.out] at hown6
    have HG6:=Lib.hid (HGV.out.pushS HOK.out hown6 (by rw [HQN.out];exact hgrow6) (by rw [HQN.out];exact hat6))
    clear hown6 hgrow6 hnil6 hat6 hrow hBV hone hnews
    go_roundw
    case rel=>exact ⟨j+1,_,by go_num,by omega,by omega,hHQ.out,HG6.out⟩
    case measure=>simp [intOf];omega
   ·have hE2:j=m∨(j<m∧j=5000):=by omega
    have HJ:Hid (m<5000→j=m):=fun h=>by omega
    have hqb:Q.length≤10000:=by omega
    clear hqn HQN hE
    rcases hE2 with hjm|⟨hjm,hj50⟩
    ·have hjm3:¬(j:Int)<(m:Int):=by omega
     clear hjm
     go_wp2
     clear l80
     go_meet
     exact ⟨j,Q,rfl,HJ,hqb,hj5,HQ,HG⟩
    ·have hjm3:(j:Int)<(m:Int):=by omega
     have hjm4:¬(j:Int)<5000:=by omega
     clear hjm hj50
     go_wp2
     clear l80
     go_meet
     exact ⟨j,Q,rfl,HJ,hqb,hj5,HQ,HG⟩
 case rest=>
  obtain ⟨j,Q,rfl,HJ,hqb,hj5,HQ,HG⟩:=hcut
  have HI0:Hid (GInv (Q.map SX.s) (Q.map SX.s) 0):=GInv.start _
  have HLG:Hid (([(p.props,s.pl),(p.info,s.fl)]:List (VT×Value)).map (·.1)=p.props::p.info::gat ((Q.map SX.s).take 0)):=rfl
  obtain ⟨Q1,hQ1⟩:∃ Q1,Q.map SX.s=Q1:=⟨_,rfl⟩
  rw [hQ1] at HQ HI0
  have HQ1:=Lib.hid hQ1
  clear hQ1
  go_wp2
  go_loopw [3,4,5,7] (fun lv nv sv iv wr=>∃ (i:Nat) (Qc:List SX) (L:List (VT×Value)),nv= .int .i64 i∧iv= .int .i64 i∧i≤5000∧Qc.length≤10000∧L.length=2+2*i∧Hid (GInv Q1 (Qc.map SX.s) i)∧Hid (L.map (·.1)=p.props::p.info::gat ((Qc.map SX.s).take i))∧Hid (GW W1.heap.size 30 25 N n W1 Qc L sv lv wr)) (fun _ nv _ _ _=>5000-(intOf nv).toNat)
  case atStart=>exact ⟨0,Q,[(p.props,s.pl),(p.info,s.fl)],rfl,rfl,Nat.zero_le _,hqb,rfl,(by show GInv _ _ _;rw [HQ1.out];exact HI0.out),HLG,HG.out⟩
  case round=>
   obtain ⟨i,Qc,L,rfl,rfl,hi5,hqc,hln,HI,HLG,HG⟩:=hrel
   obtain ⟨qn,hqn⟩:∃ q,Qc.length=q:=⟨_,rfl⟩
   have HQN:=Lib.hid hqn
   rw [hqn] at hqc
   by_cases hE:i<qn∧i<5000
   ·obtain ⟨hlt,h5⟩:=hE
    obtain ⟨x,hxq⟩:∃ x,Qc[i]? =some x:=⟨_,List.getElem?_eq_getElem (by omega)⟩
    obtain ⟨g,sc,rfl,hcx,hgB,hgw⟩:=HG.out.atS hxq
    rw [hqn]
    obtain ⟨lp,lc,rfl⟩:=HG.out.formL
    rw [hln] at HG ⊢
    have hbd:Below wr.heap.size wr wr.drew:=(Below.refl _ _).drew
    have HBD:=Lib.hid hbd
    have HOK:=Lib.hid (HG.out.okS x (List.mem_of_getElem? hxq))
    have HLD:Hid (∀ v,Below wr.heap.size wr v→((Instr.loadAt 25 (.pointer (some ⟨g,i*19+12,none⟩))).run Tryz.prog v= .ok (x.s.ann.agg x.al) v∧(Instr.loadAt 25 (.pointer (some ⟨g,i*19+3+2,none⟩))).run Tryz.prog v= .ok (x.s.info.agg x.il) v)):=fun v hv=>let ⟨ca,ci,_⟩:=sx_text (hcx.below hv hgw);⟨load_value (o:=i*19+12) ca,load_value (o:=i*19+5) ci⟩
    obtain ⟨V,hV⟩:∃ V,wr.drew.alloc (.cells #[.int .i64 x.s.ann.kind,.int .u64 x.s.ann.num,.string x.s.ann.text,x.al,.int .i64 x.s.ann.elem,.int .i64 x.s.info.kind,.int .u64 x.s.info.num,.string x.s.info.text,x.il,.int .i64 x.s.info.elem] 25)=V:=⟨_,rfl⟩
    obtain ⟨hnc,hzV,hbV⟩:=box1 (cs:=cellsL [(x.s.ann,x.al),(x.s.info,x.il)]) hV
    have hnews:=news_of hnc
    have HGV:=Lib.hid ((HG.out.keep hbd).keep hbV)
    have HBV:Hid (Below wr.heap.size wr V):=hbd.trans hbV
    have HLD2:Hid (∀ v,V.grownBy v (Value.slice lp (2+2*i) lc).ownBlock→((Instr.loadAt 25 (.pointer (some ⟨g,i*19+12,none⟩))).run Tryz.prog v= .ok (x.s.ann.agg x.al) v∧(Instr.loadAt 25 (.pointer (some ⟨g,i*19+3+2,none⟩))).run Tryz.prog v= .ok (x.s.info.agg x.il) v)):=fun v hv=>by
     have hcv:Cells v g (i*19) x.cells:=fun k u hu=>(World.cell?_of_block (a:=⟨g,_,none⟩) (hv.block g (by have:=HBV.out.size;omega) (fun e=>HGV.out.ne g rfl e.symm))).trans (hcx.below HBV.out hgw k u hu)
     obtain ⟨ca,ci,_⟩:=sx_text hcv
     exact ⟨load_value (o:=i*19+12) ca,load_value (o:=i*19+5) ci⟩
    have hrow:=HGV.out.rowL
    rw [hln] at hrow
    have hone:=two_one HOK.out.2.2.1 HOK.out.2.1
    have hBV:=HGV.out.Bw
    have HLN:=Lib.hid hln
    have HXQ:=Lib.hid hxq
    have HTK:Hid ((Qc.map SX.s).take (i+1)=(Qc.map SX.s).take i++[x.s]):=by
     show _=_
     rw [List.take_add_one,List.getElem?_map,hxq];rfl
    have HLG2:Hid ((L++[(x.s.ann,x.al),(x.s.info,x.il)]).map (·.1)=p.props::p.info::gat ((Qc.map SX.s).take (i+1))):=by
     show _=_
     rw [HTK.out,gat_append,gat_one,List.map_append,HLG.out];rfl
    have HMD:Hid (GMid Q1 (Qc.map SX.s) i 0 x.s.inner):=HI.out.mid (by rw [List.getElem?_map,hxq];rfl)
    obtain ⟨kp,kc,hlv⟩:=HOK.out.2.2.2.slice
    have hml:=HOK.out.2.2.2.len
    obtain ⟨mi,hmi⟩:∃ q,x.s.inner.length=q:=⟨_,rfl⟩
    have HMI:=Lib.hid hmi
    rw [hmi] at hlv hml
    have hmi64:mi≤9223372036854775807:=hml
    have HLV:=Lib.hid hlv
    have hi0:(0:Int)≤(i:Int):=by omega
    have hiq:(i:Int)<(qn:Int):=by omega
    have hi51:(i:Int)<5000:=by omega
    obtain ⟨hmx1,hmb1⟩:=bytes_ok2 h5
    clear hnc hbV hbd hxq hcx HI HLG hmi hlv hml hqn
    go_wp2
    go_region_held_law (fun v=>(Instr.loadAt 25 (.pointer (some ⟨g,i*19+12,none⟩))).run Tryz.prog v= .ok (x.s.ann.agg x.al) v∧(Instr.loadAt 25 (.pointer (some ⟨g,i*19+3+2,none⟩))).run Tryz.prog v= .ok (x.s.info.agg x.il) v)
     (first
       |with_reducible exact HLD2.out _ hgrow6
       |with_reducible exact HLD.out _ HBV.out
       |with_reducible exact HLD.out _ HBD.out)
     (first
       |(refine step_append_lies _ rfl _ _ 23 rfl W1.heap.size 25 iV _ 5 64 Tryz.underlying23 hV0 hV1 hV2 hV3 rfl (by decide) (.slice lp (2+2*i) lc) (2+2*i) (cellsL L) rfl hrow ⟨wr.drew.heap.size,0,none⟩ 2 2 (cellsL [(x.s.ann,x.al),(x.s.info,x.il)]) rfl rfl hnews hone (by decide) hmx1 hmb1 hBV V.heap.size rfl ?_;intro g6 c6 w6 hown6 hgrow6 hat6 hlt6))
    have hat7:(Value.slice (some ⟨g6,0,none⟩) (2+2*i+2) c6).ownBlock=(Value.slice lp (2+2*i) lc).ownBlock∨(Value.slice (some ⟨g6,0,none⟩) (2+2*i+2) c6).ownBlock=some V.heap.size:=hat6.imp (fun e=>e.symm) (fun e=>congrArg some e)
    obtain ⟨v',hv'⟩:∃ v',Value.slice (some ⟨g6,0,none⟩) (2+2*i+2) c6=v':=⟨_,rfl⟩
    rw [hv'] at hown6 hat7 ⊢
    rw [←HLN.out] at hown6
    have HG6:=Lib.hid (HGV.out.pushL (ys:=[(x.s.ann,x.al),(x.s.info,x.il)]) (fun y hy=>by
     simp only [List.mem_cons,List.not_mem_nil,or_false] at hy
     rcases hy with rfl|rfl
     ·exact ⟨HOK.out.1.a,HOK.out.2.2.1⟩
     ·exact ⟨HOK.out.1.i,HOK.out.2.1⟩) hown6 hgrow6 hat7)
    have hln2:(L++[(x.s.ann,x.al),(x.s.info,x.il)]).length=2+2*(i+1):=by rw [List.length_append,HLN.out];show 2+2*i+2=_;omega
    obtain ⟨L2,hL2⟩:∃ L2,L++[(x.s.ann,x.al),(x.s.info,x.il)]=L2:=⟨_,rfl⟩
    rw [hL2] at HG6 hln2 HLG2
    clear hown6 hgrow6 hat6 hat7 hlt6 hrow hBV hone hnews hV hL2 HGV HG HLD HLD2 HBV HBD
    clear hv'
    go_wp2
    go_loopw [5,8] (fun sv kv wq=>∃ (k:Nat) (Qd:List SX),kv= .int .i64 k∧k≤mi∧Qd.length≤10000∧Hid (Qd[i]? =some x)∧Hid ((Qd.map SX.s).take (i+1)=(Qc.map SX.s).take (i+1))∧Hid (GMid Q1 (Qd.map SX.s) i k x.s.inner)∧Hid (GW W1.heap.size 30 25 N n W1 Qd L2 sv v' wq)) (fun _ kv _=>mi-(intOf kv).toNat)
    case atStart=>exact ⟨0,Qc,rfl,Nat.zero_le _,by rw [HQN.out];exact hqc,HXQ.out,rfl,HMD.out,by have:=HG6.out;rw [HQN.out] at*;exact this⟩
    case round=>
     obtain ⟨k,Qd,rfl,hk,hqd,HX,HT,HM2,HG2⟩:=hrel
     obtain ⟨qd,hqdn⟩:∃ q,Qd.length=q:=⟨_,rfl⟩
     have HQD:=Lib.hid hqdn
     obtain ⟨g2,sc2,rfl,hcx2,hgB2,hgw2⟩:=HG2.out.atS HX.out
     rw [hqdn] at hqd HG2 ⊢
     have hiq2:i<qd:=by rw [←hqdn];exact (List.getElem?_eq_some_iff.1 HX.out).1
     have hiq3:(i:Int)<(qd:Int):=by omega
     obtain ⟨_,_,c18⟩:=sx_text hcx2
     rw [HLV.out] at c18
     have l18:=load_slice c18
     clear hcx2 c18
     by_cases hE:k<mi∧qd<10000
     ·obtain ⟨hkm,hq1⟩:=hE
      obtain ⟨y,hy⟩:∃ y,x.s.inner[k]? =some y:=⟨_,List.getElem?_eq_getElem (by rw [HMI.out];exact hkm)⟩
      obtain ⟨b,off,c,il,al,kv,hlv,hbB,hcy,hoky⟩:=sat_kid HOK.out.2.2.2 hy
      have hkk:=HLV.out.symm.trans hlv
      simp only [Value.slice.injEq] at hkk
      obtain ⟨rfl, -,rfl⟩:=hkk
      have ly:=load_state (hcy.below HG2.out.below hbB)
      have HOKY:=Lib.hid hoky
      obtain ⟨V2,hV2'⟩:∃ V,wr.alloc (.cells #[.int .i64 y.kind,.int .i64 y.section_,.int .i64 y.offset,.string y.cond,.string y.text,.int .i64 y.info.kind,.int .u64 y.info.num,.string y.info.text,il,.int .i64 y.info.elem,.bool y.failed,.bool y.elsewhere,.int .i64 y.ann.kind,.int .u64 y.ann.num,.string y.ann.text,al,.int .i64 y.ann.elem,.string y.txn,kv] 30)=V:=⟨_,rfl⟩
      obtain ⟨hnc,hzV2,hbV2⟩:=box1 (cs:=(SX.mk y il al kv).cells) hV2'
      have hnews:=news_of hnc
      have HGV:=Lib.hid (HG2.out.keep hbV2)
      have hrow:=HGV.out.rowS
      rw [hqdn] at hrow
      have hone:=one_sx' hoky
      have hBV:=HGV.out.Bw
      have hk0:(0:Int)≤(k:Int):=by omega
      have hkm1:(k:Int)<(mi:Int):=by omega
      have hq11:(qd:Int)<10000:=by omega
      obtain ⟨hmx2,hmb2⟩:=bytes_ok hq1
      have HX2:Hid ((Qd++[SX.mk y il al kv])[i]? =some x):=by
       show _=_
       rw [List.getElem?_append_left (by omega)];exact HX.out
      have HT2:Hid (((Qd++[SX.mk y il al kv]).map SX.s).take (i+1)=(Qc.map SX.s).take (i+1)):=by
       show _=_
       rw [List.map_append,List.take_append_of_le_length (by rw [List.length_map];omega)];exact HT.out
      have HM3:Hid (GMid Q1 ((Qd++[SX.mk y il al kv]).map SX.s) i (k+1) x.s.inner):=by
       show GMid _ _ _ _ _
       rw [List.map_append];exact HM2.out.push hy
      have hlen3:(Qd++[SX.mk y il al kv]).length≤10000:=by rw [List.length_append,hqdn];show qd+1≤_;omega
      clear hy hlv hcy hoky hnc hbV2 hqdn
      go_wp2_with (at_builtin;go_must (refine wpList_append_own_at _ rfl _ _ 28 rfl W1.heap.size 30 iS _ 19 232 Tryz.underlying28 hS0 hS1 hS2 hS3 rfl (by decide) (.slice (some ⟨g2,0,none⟩) qd sc2) qd (cellsQ Qd) rfl hrow ⟨wr.heap.size,0,none⟩ 1 1 (SX.mk y il al kv).cells rfl rfl hnews hone hmx2 hmb2 hBV ?_;intro v2 w7 hown7 hgrow7 hnil7 hat7))
      rw [←HQD.out] at hown7
      have HG7:=Lib.hid (HGV.out.pushS HOKY.out hown7 hgrow7 hat7)
      clear hown7 hgrow7 hnil7 hat7 hrow hBV hone hnews
      go_roundw
      case rel=>exact ⟨k+1,_,by go_num,by omega,hlen3,HX2.out,HT2.out,HM3.out,HG7.out⟩
      case measure=>simp [intOf];omega
     ·have hE2:k=mi∨(k<mi∧qd=10000):=by omega
      have HIN:Hid (GInv Q1 (Qd.map SX.s) (i+1)):=HM2.out.done (by rw [List.length_map,HQD.out,HMI.out];omega)
      have HLG3:Hid (L2.map (·.1)=p.props::p.info::gat ((Qd.map SX.s).take (i+1))):=by
       show _=_
       rw [HT.out];exact HLG2.out
      clear hE hqdn
      rcases hE2 with hkm|⟨hkm,hk50⟩
      ·have hkm3:¬(k:Int)<(mi:Int):=by omega
       clear hkm
       go_wp2
       clear l18
       go_roundw
       case rel=>exact ⟨i+1,Qd,L2,by go_num,by go_num,by omega,by have:=HQD.out;omega,hln2,HIN.out,HLG3.out,HG2.out⟩
       case measure=>simp [intOf];omega
      ·have hkm3:(k:Int)<(mi:Int):=by omega
       have hkm4:¬(qd:Int)<10000:=by omega
       clear hkm hk50
       go_wp2
       clear l18
       go_roundw
       case rel=>exact ⟨i+1,Qd,L2,by go_num,by go_num,by omega,by have:=HQD.out;omega,hln2,HIN.out,HLG3.out,HG2.out⟩
       case measure=>simp [intOf];omega
   ·have hle:=HI.out.le
    rw [List.length_map,hqn] at hle
    have hE2:i=qn∨(i<qn∧i=5000):=by omega
    obtain ⟨lp,lc,rfl⟩:=HG.out.formL
    have HC:Hid (Calls Tryz.prog 14 #[.slice lp L.length lc] wr fun r w'=>r= .returned (.bool (decide (100000<wts (L.map (·.1)) 0)))∧Below wr.heap.size wr w'):=greatAll_any (HG.out.lat (by rw [hln];unfold maxLen;omega)) (Nat.le_refl _)
    obtain ⟨T,hT⟩:∃ T,decide (100000<wts (L.map (·.1)) 0)=T:=⟨_,rfl⟩
    rw [hT,hln] at HC
    obtain ⟨sp9,sc9,rfl⟩:=HG.out.formS
    rw [hln,hqn]
    have HTT:=Lib.hid hT
    have HBW:Hid (Below W1.heap.size W1 wr):=HG.out.below
    have hzw:=HG.out.Bw
    have HGI:Hid (i=qn→i<5000→T=false→Sms p.props.list∧Sms p.info.list∧∀ s∈Q1,Sms s.info.list∧Sms s.ann.list∧Ssm s.inner):=fun h1 h2 h3=>by
     have hl:(Qc.map SX.s).length=i:=by rw [List.length_map,hqn,h1]
     have hI:=HI.out
     rw [←hl] at hI
     have hLG:=HLG.out
     rw [List.take_of_length_le (by omega)] at hLG
     refine hI.fin (by omega) ?_
     rw [←hLG]
     have:=HTT.out
     rw [h3] at this
     have:=of_decide_eq_false this
     omega
    have HFIN:Hid (T=false→i<5000→qn<10000→m<5000→¬(100000<p.src.outs.length+p.src.caps.length+p.tgt.outs.length+p.tgt.caps.length)→PSm p):=fun h1 h2 h3 h4 h5=>by
     obtain ⟨s1,s2,s3⟩:=HGI.out (by omega) h2 h1
     have hj9:j=m:=HJ.out h4
     have hall:∀ u∈p.uns,u.2∈Q1:=fun u hu=>by
      rw [HQ.out,hj9,List.take_of_length_le (by have:=HM.out;omega)]
      exact List.mem_append_right _ (List.mem_map.2 ⟨u,hu,rfl⟩)
     have h01:=s3 p.state (by rw [HQ.out];simp)
     have h02:=s3 p.src.dflt (by rw [HQ.out];simp)
     have h03:=s3 p.tgt.dflt (by rw [HQ.out];simp)
     exact ⟨s1,s2,h01.1,h01.2.1,h01.2.2,h02.1,h02.2.1,h02.2.2,by omega,by omega,h03.1,h03.2.1,h03.2.2,by omega,by omega,by have:=HM.out;omega,fun u hu=>s3 u.2 (hall u hu)⟩
    clear hE HI HLG HG hT HGI hqn HQN
    rcases hE2 with hiq|⟨hiq,hi50⟩
    ·subst hiq
     go_wp2_with (fail)
     refine HC.out.mono ?_
     rintro r w9 ⟨rfl,hb9⟩
     have hB9:Below W1.heap.size W1 w9:=HBW.out.trans (hb9.mono hzw)
     have HBE:Hid (Below w.heap.size w w9):=HB1.out.trans (hB9.mono (by have:=HZ1.out;omega))
     clear HC
     cases T with
     |true=>
      clear hb9
      go_wp2
      go_ret
      exact ⟨true,rfl,(fun h=>by cases h),HBE.out⟩
     |false=>
     by_cases h51:(5000:Int)≤((i:Nat):Int)
     ·clear hb9
      go_wp2
      go_ret
      exact ⟨true,rfl,(fun h=>by cases h),HBE.out⟩
     have hqn1:¬(10000:Int)≤((i:Nat):Int):=by omega
     have l80:=HL80.out w9 hB9
     by_cases hm5:(5000:Int)≤(m:Int)
     ·clear hb9
      go_wp2
      go_ret
      exact ⟨true,rfl,(fun h=>by cases h),HBE.out⟩
     obtain ⟨xo,yo,hxo⟩:=HPA.out.src.outs.slice
     obtain ⟨xc,yc,hxc⟩:=HPA.out.src.caps.slice
     obtain ⟨zo,vo,hzo⟩:=HPA.out.tgt.outs.slice
     obtain ⟨zc,vc,hzc⟩:=HPA.out.tgt.caps.slice
     obtain ⟨t1,t2,t3,t4⟩:=HTX.out
     obtain ⟨o1,ho1⟩:∃ q,p.src.outs.length=q:=⟨_,rfl⟩
     obtain ⟨o2,ho2⟩:∃ q,p.src.caps.length=q:=⟨_,rfl⟩
     obtain ⟨o3,ho3⟩:∃ q,p.tgt.outs.length=q:=⟨_,rfl⟩
     obtain ⟨o4,ho4⟩:∃ q,p.tgt.caps.length=q:=⟨_,rfl⟩
     rw [ho1] at t1 hxo HFIN
     rw [ho2] at t2 hxc HFIN
     rw [ho3] at t3 hzo HFIN
     rw [ho4] at t4 hzc HFIN
     have hc9:=HC1.out w9 hB9
     have c1:=cells_outs (cells_psrc (o:=0) hc9)
     have c2:=cells_caps (cells_psrc (o:=0) hc9)
     have c3:=cells_outs (cells_ptgt (o:=0) hc9)
     have c4:=cells_caps (cells_ptgt (o:=0) hc9)
     rw [hxo] at c1
     rw [hxc] at c2
     rw [hzo] at c3
     rw [hzc] at c4
     have k1:(Instr.loadAt 31 (.pointer (some ⟨w.heap.size,22+27,none⟩))).run Tryz.prog w9= .ok (.slice xo o1 yo) w9:=load_texts c1
     have k2:(Instr.loadAt 31 (.pointer (some ⟨w.heap.size,22+28,none⟩))).run Tryz.prog w9= .ok (.slice xc o2 yc) w9:=load_texts c2
     have k3:(Instr.loadAt 31 (.pointer (some ⟨w.heap.size,51+27,none⟩))).run Tryz.prog w9= .ok (.slice zo o3 vo) w9:=load_texts c3
     have k4:(Instr.loadAt 31 (.pointer (some ⟨w.heap.size,51+28,none⟩))).run Tryz.prog w9= .ok (.slice zc o4 vc) w9:=load_texts c4
     have hw1:IntKind.i64.wrap ((o1:Int)+o2)=o1+o2:=by rw [IntKind.wrap_i64];omega
     have hw2:IntKind.i64.wrap ((o1:Int)+o2+o3)=o1+o2+o3:=by rw [IntKind.wrap_i64];omega
     have hw3:IntKind.i64.wrap ((o1:Int)+o2+o3+o4)=o1+o2+o3+o4:=by rw [IntKind.wrap_i64];omega
     clear hc9 c1 c2 c3 c4 hb9 hxo hxc hzo hzc ho1 ho2 ho3 ho4
     by_cases hts:(100000:Int)<(o1:Int)+o2+o3+o4
     ·go_wp2
      go_ret
      exact ⟨true,rfl,(fun h=>by cases h),HBE.out⟩
     ·have HPS:Hid (PSm p):=HFIN.out rfl (by omega) (by omega) (by omega) (by omega)
      go_wp2
      go_ret
      refine ⟨false,?_,(fun _=>HPS.out),HBE.out⟩
      show Ending.returned (Value.bool _)=_
      rw [decide_eq_false (show ¬(5000:Int)≤(i:Int) by omega),decide_eq_false (show ¬(10000:Int)≤(i:Int) by omega),decide_eq_false (show ¬(5000:Int)≤(m:Int) by omega),decide_eq_false (show ¬(100000:Int)<(o1:Int)+o2+o3+o4 by omega)]
      rfl
    ·subst hi50
     go_wp2_with (fail)
     refine HC.out.mono ?_
     rintro r w9 ⟨rfl,hb9⟩
     have hB9:Below W1.heap.size W1 w9:=HBW.out.trans (hb9.mono hzw)
     have HBE:Hid (Below w.heap.size w w9):=HB1.out.trans (hB9.mono (by have:=HZ1.out;omega))
     clear HC
     cases T with
     |true=>
      clear hb9
      go_wp2
      go_ret
      exact ⟨true,rfl,(fun h=>by cases h),HBE.out⟩
     |false=>
     go_wp2
     go_ret
     exact ⟨true,rfl,(fun h=>by cases h),HBE.out⟩
end Go.Proofs.YtfjlnfogbfmpiaaGreatDoor.Va
