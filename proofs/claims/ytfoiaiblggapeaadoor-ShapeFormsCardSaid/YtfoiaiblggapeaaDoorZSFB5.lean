/-
  The texts LO LP of this claim, one behind the other.
-/
import Derived.Test.YtfoiaiblggapeaaDoorZSFB4
import Derived.Test.YtfoiaiblggapeaaDoorZSFA1
namespace Go.Proofs.YtfoiaiblggapeaaDoor.Va
open Go Go.RowKit Nu Uc Fd Go.Proofs.YtfoiaiblggapeaaDoor.Nm
attribute [-go_sem] Go.Instr.loadAt Go.Instr.storeAt
theorem pload_u64 {w:World} {a:Addr} {v:Value} (h:w.cell? a=some v):(Instr.loadAt 23 (.pointer (some a))).run Tryd.prog w= .ok v w:=by
 have:=Tryd.underlying23
 have:=Tryd.sizeOf23
 have:Go.Instr.loadAt=Go.Instr.loadAt:=rfl
 unfold Go.Instr.loadAt
 go_simp
def LongAns (k:Int) (fs:List FT) (g:List VT) (bs:List Bool) (tail:Bool) (w:World) (r:Ending) (w':World):Prop:=
 ∃ (B b:Nat) (p:Option Addr) (c:Nat) (items:List (VT×Value)),r= .returned (.agg #[.int .i64 24,.int .u64 0,.string ⟨#[]⟩,.slice (some ⟨b,0,none⟩) 2 2,.int .i64 0])∧w.heap.size≤B∧B≤b∧
   Box w' b [.int .i64 20,.int .u64 0,.string (nameB k),.slice none 0 0,.int .i64 0,.int .i64 21,.int .u64 0,.string ⟨#[]⟩,.slice p items.length c,.int .i64 0]∧(Value.slice p items.length c).ownBlock≠some b∧
   PRL B 26 (fun j=>j<w.heap.size∨(B≤j∧j≠b)) w' items (.slice p items.length c) w'∧(items.map (·.1)=longL (rawB bs) fs g∨(tail=false∧items.map (·.1)=trimT (longL (rawB bs) fs g)))∧items.length≤13∧Below w.heap.size w w'
set_option maxRecDepth 100000 in
set_option maxHeartbeats 8000000 in
theorem long_any {M:Nat} {k:Int} {fs:List FT} {g:List VT} {q:Option Addr} {d:Nat} {rv:Value} {bs:List Bool} (tail:Bool) {w:World} (hE:Env w) (hfs:fieldsT k=some fs) (hgl:g.length≤fs.length) (hl:LAt w.heap.size w (M+2) (.slice q 2 d) [.mk 5 k empt 0 [],.mk 21 0 empt 0 g]) (hb:BAt w rv bs):
 Calls Tryd.prog 18 #[.agg #[.int .i64 24,.int .u64 0,.string ⟨#[]⟩,.slice q 2 d,.int .i64 0],rv,.bool tail] w (LongAns k fs g bs tail w):=by
 obtain ⟨b,off,e,p,c,rfl,hbB,C0,C1,L0,L1⟩:=packed_at hl
 obtain ⟨rp,rc,rfl,hrl, -⟩:=id hb
 obtain ⟨W1,hW1⟩:∃ W1,(w.alloc (.cells #[.int .i64 24,.int .u64 0,.string ⟨#[]⟩,.slice (some ⟨b,off,none⟩) 2 d,.int .i64 0] 26)).alloc (.cells #[.int .i64 0,.int .u64 0,.string ⟨#[]⟩,.slice none 0 0,.int .i64 0] 26)=W1:=⟨_,rfl⟩
 obtain ⟨x1,x2,hz1,hb1⟩:=two_boxes (cs:=[.int .i64 24,.int .u64 0,.string ⟨#[]⟩,.slice (some ⟨b,off,none⟩) 2 d,.int .i64 0]) (ds:=zeroT.cells (.slice none 0 0)) hW1
 have X2:=Lib.hid x2
 have HB1:=Lib.hid hb1
 have HFS:=Lib.hid hfs
 have hkb:=fieldsT_bound hfs
 have hfl:=fieldsT_len hfs
 have HGL:=Lib.hid hgl
 obtain ⟨m,hm⟩:∃ m,fs.length=m:=⟨_,rfl⟩
 obtain ⟨ng,hng⟩:∃ n,g.length=n:=⟨_,rfl⟩
 obtain ⟨nb,hnb⟩:∃ n,bs.length=n:=⟨_,rfl⟩
 have HM:=Lib.hid hm
 have HNG:=Lib.hid hng
 have HNB:=Lib.hid hnb
 have HLS:Hid (∀ v,Below W1.heap.size W1 v→(Instr.loadAt 24 (.pointer (some ⟨w.heap.size,3,none⟩))).run Tryd.prog v= .ok (.slice (some ⟨b,off,none⟩) 2 d) v∧(Instr.loadAt 23 (.pointer (some ⟨b,off+1,none⟩))).run Tryd.prog v= .ok (.int .u64 k) v∧(Instr.loadAt 24 (.pointer (some ⟨b,off+5+3,none⟩))).run Tryd.prog v= .ok (.slice p ng c) v):=fun v h=>by
  have hv:Below w.heap.size w v:=hb1.trans (h.mono (by omega))
  have c1:Cells v b (off+5) (VT.cells (.mk 21 0 empt 0 g) (.slice p ng c)):=by rw [←hng];exact C1.below hv hbB
  exact ⟨wload_slice ((x1.below h (by omega)).cell (j:=3) rfl),pload_u64 ((C0.below hv hbB) 1 _ rfl),wload_slice (c1 3 _ rfl)⟩
 have HGV:Hid (∀ v,Below W1.heap.size W1 v→∀ (i:Nat) (x:VT),g[i]? =some x→∃ (gb go:Nat) (xq:Option Addr) (xd:Nat),p=some ⟨gb,go,none⟩∧x.Fine∧At5 v gb (go+i*5) x (.slice xq x.list.length xd)∧gb<W1.heap.size∧LAt w.heap.size v M (.slice xq x.list.length xd) x.list):=fun v h i x hx=>by
  have hv:Below w.heap.size w v:=hb1.trans (h.mono (by omega))
  rcases L1 with ⟨h0,_⟩|⟨gb,go,c',hp,hgB,_,hel⟩
  ·rw [h0] at hx;simp at hx
  ·cases hp
   obtain ⟨xf,xlv,xat,xl⟩:=hel i x hx
   obtain ⟨xq,xd,rfl⟩:=xl.slice
   exact ⟨gb,go,xq,xd,rfl,xf,xat.heap (hv.block gb hgB),by omega,xl.below hv⟩
 have HRB:Hid (∀ v,Below W1.heap.size W1 v→∀ (i:Nat) (x:Bool),bs[i]? =some x→∃ rb ro,rp=some ⟨rb,ro,none⟩∧v.cell? ⟨rb,ro+i,none⟩=some (.bool x)):=fun v h i x hx=>by
  obtain ⟨p',c',e,_,hc⟩:=hb.below (hb1.trans (h.mono (by omega)))
  cases e
  exact hc i x hx
 have HE1:=Lib.hid (hE.below hb1)
 have HNM:Hid (Calls Tryd.prog 20 #[.int .i64 k] W1 fun e w'=>e= .returned (.string (nameB k))∧Below W1.heap.size W1 w'):=by
  obtain ⟨⟨t,hsp⟩,_⟩:=HE1.out
  exact name_any k hsp (by omega) (by omega)
 have HFA:Hid (∀ v,Calls Tryd.prog 19 #[.int .i64 k] v fun r w'=>∃ fp fc,r= .returned (.tuple #[.slice fp m fc,.bool true])∧FsOwn v.heap.size w'.heap.size w' (.slice fp m fc) fs∧Below v.heap.size v w'):=fun v=>by
  refine (fields_any k v).mono ?_
  rintro r w' ⟨x,rfl,ho,hbb⟩
  rw [hfs] at ho ⊢
  have ho:FsOwn v.heap.size w'.heap.size w' x fs:=ho
  obtain ⟨fp,fc,rfl,_⟩:=ho.view
  rw [hm] at ho ⊢
  exact ⟨fp,fc,rfl,ho,hbb⟩
 obtain ⟨l1,l2,l3⟩:=HLS.out W1 (Below.refl _ _)
 have hcv:IntKind.i64.wrap k=k:=by rw [IntKind.wrap_i64];omega
 rw [hnb] at hrl ⊢
 clear hl hb x1 x2 hb1 C0 C1 L0 L1 hE hfs hgl
 go_enter Tryd.func18,Tryd.ntmps18
 go_wp2_with (fail)
 clear l1 l2 l3 hcv
 refine HNM.out.mono ?_
 rintro r w2 ⟨rfl,hb2⟩
 have HB2:=Lib.hid hb2
 have HFA2:=Lib.hid (HFA.out w2)
 clear hb2 HNM HFA
 go_wp2_with (fail)
 refine HFA2.out.mono ?_
 rintro r w3 ⟨fp,fc,rfl,ho3,hb3⟩
 have HB3:Hid (Below W1.heap.size W1 w3):=HB2.out.trans (hb3.mono HB2.out.size)
 have HFO:=Lib.hid ho3
 obtain ⟨lo3,hlo3⟩:∃ lo,w2.heap.size=lo:=⟨_,rfl⟩
 obtain ⟨hi3',hhi3⟩:∃ hi,w3.heap.size=hi:=⟨_,rfl⟩
 rw [hlo3,hhi3] at HFO
 have HPR0:Hid (PRL w3.heap.size 26 (fun j=>j<w.heap.size∨w3.heap.size≤j) w3 [] (.slice none 0 0) w3):=PRL.start w3
 have HFB:Hid (Below w3.heap.size w3 w3):=Below.refl _ _
 clear ho3 hb3 HFA2 hlo3 hhi3
 go_wp2
 obtain ⟨i0,hi0,hi1,hi2,hi3⟩:=info_parts infoVV
 go_loopw [11,12] (fun sv iv wr=>∃ (i:Nat) (items:List (VT×Value)),iv= .int .i64 i∧i≤m∧Hid (items.map (·.1)=(longL (rawB bs) fs g).take i)∧Hid (PRL w3.heap.size 26 (fun j=>j<w.heap.size∨w3.heap.size≤j) w3 items sv wr)) (fun _ iv _=>m-(intOf iv).toNat)
 case atStart=>exact ⟨0,[],rfl,Nat.zero_le _,(by show []=_;simp),HPR0.out⟩
 case round=>
  obtain ⟨i,items,rfl,hi,HT,HPR⟩:=hrel
  have HBW:Hid (Below W1.heap.size W1 wr):=HB3.out.trans (HPR.out.below.mono HB3.out.size)
  by_cases hlt:i<m
  ·obtain ⟨f,hf⟩:∃ f,fs[i]? =some f:=⟨_,List.getElem?_eq_getElem (by rw [HM.out];exact hlt)⟩
   have hitl:items.length=i:=by
    have:=congrArg List.length HT.out
    simp only [List.length_map,List.length_take,longL_len] at this
    have h1:=HM.out
    omega
   obtain ⟨q1,d1,e1,hv⟩:=(HFO.out.below HPR.out.below).view
   obtain ⟨fb,foff,kv,rfl,hfb,⟨a0,a1,a2,a3,a4,a5,a6,a7,a8⟩, -⟩:=hv i f hf
   simp only [Value.slice.injEq] at e1
   obtain ⟨rfl, -, -⟩:=e1
   have hcf:Cells wr fb (foff+i*9+4) (f.dflt.cells (.slice none 0 0)):=fun j u hu=>by
    match j,hu with
    |0,hu=>cases hu;exact a4
    |1,hu=>cases hu;exact a5
    |2,hu=>cases hu;exact a6
    |3,hu=>cases hu;exact a7
    |4,hu=>cases hu;exact a8
    |j+5,hu=>simp [VT.cells] at hu
   have HLF:Hid (∀ v,Below wr.heap.size wr v→(Instr.loadAt 26 (.pointer (some ⟨fb,foff+i*9+4,none⟩))).run Tryd.prog v= .ok (.agg #[.int .i64 f.dk,.int .u64 f.dn,.string ⟨f.dt.toArray⟩,.slice none 0 0,.int .i64 0]) v):=fun v h=>wload_value (t:=f.dflt) (lv:= .slice none 0 0) (hcf.below h hfb)
   have hi0':(0:Int)≤(i:Int):=by omega
   have hi1':(i:Int)<(m:Int):=by omega
   obtain ⟨Wa,hWa⟩:∃ Wa,wr.alloc (.cells #[.int .i64 0,.int .u64 0,.string ⟨#[]⟩,.slice none 0 0,.int .i64 0] 26)=Wa:=⟨_,rfl⟩
   obtain ⟨xa,hza,hba⟩:=one_box (cs:=zeroT.cells (.slice none 0 0)) hWa
   obtain ⟨Wb,hsta,xb,hbb0,hzb⟩:=val_box xa rfl zeroT none 0 0
   replace hsta:(Instr.storeAt 26 (.pointer (some ⟨wr.heap.size,0,none⟩)) (.agg #[.int .i64 0,.int .u64 0,.string ⟨#[]⟩,.slice none 0 0,.int .i64 0])).run Tryd.prog Wa= .ok () Wb:=hsta
   have hbb:Below wr.heap.size wr Wb:=hba.trans hbb0
   have HFI:=Lib.hid hf
   have HDF:Hid f.dflt.Fine:=by
    obtain ⟨hvf,_⟩:=lit_vat f wr (field_lit HFS.out (List.mem_of_getElem? hf))
    exact hvf
   have hmx:items.length+1≤maxLen:=by unfold maxLen;omega
   have hmb:(items.length+1)*64≤140737488355328:=by omega
   obtain ⟨sp,sc,rfl⟩:=HPR.out.form
   rw [hitl] at HPR hmx hmb ⊢
   have HITL:=Lib.hid hitl
   clear hitl hf hv a0 a1 a2 a3 a4 a5 a6 a7 a8 hcf xa hba hbb0
   by_cases hhas:i<ng
   ·by_cases hr:i<nb
    ·obtain ⟨rv,hr⟩:∃ rv,bs[i]? =some rv:=⟨_,List.getElem?_eq_getElem (by rw [HNB.out];exact hr)⟩
     have hin:i<nb:=by rw [←HNB.out];exact (List.getElem?_eq_some_iff.1 hr).1
     cases rv with
     |false=>
      obtain ⟨x,hx⟩:∃ x,g[i]? =some x:=⟨_,List.getElem?_eq_getElem (by rw [HNG.out];exact hhas)⟩
      have hu0:(g[i]?).getD zeroT=x:=by rw [hx];rfl
      obtain ⟨pb,po,xq,xd,rfl,xf,xat,hpb,xl⟩:=HGV.out wr HBW.out i x hx
      have le:=wload_value (at5_cells (xat.heap (hbb.block pb (by have:=HBW.out.size;omega))))
      have hgi:(i:Int)<(ng:Int):=by omega
      have hgi0:(0:Int)≤(i:Int):=by omega
      obtain ⟨_,_,ls⟩:=HLS.out Wb (HBW.out.trans (hbb.mono HBW.out.size))
      obtain ⟨Wc,hs2,xc,hbc0,hzc⟩:=val_box xb rfl x xq x.list.length xd
      have HBC:Hid (Below wr.heap.size wr Wc):=hbb.trans hbc0
      have XC:=Lib.hid xc
      have HZW:Hid (Wc.heap.size=wr.heap.size+1):=by show _=_;omega
      clear hza hzb
      have HXF:=Lib.hid xf
      have HXL:Hid (LAt w.heap.size Wc M (.slice xq x.list.length xd) x.list):=xl.below (HBC.out.mono (by have:=HB1.out.size;have:=HBW.out.size;omega))
      clear xat xl xf hbc0 hzc xc hx
      have lk:=pload_int (XC.out.cell (j:=0) rfl)
      have hnbi:(i:Int)<(nb:Int):=by omega
      have hnb0:(0:Int)≤(i:Int):=by omega
      obtain ⟨rb,ro,rfl,hcr⟩:=HRB.out Wc (HBW.out.trans (HBC.out.mono HBW.out.size)) i _ hr
      have lr:=pload_bool hcr
      clear hcr
      have hit:longI (rawB bs i) f ((g[i]?).getD zeroT)=(g[i]?).getD zeroT:=longI_keep (.inl (rawB_at hr))
      rw [hu0] at hit
      have HIT:Hid (longI (rawB bs i) f ((g[i]?).getD zeroT)=x):=by show _=_;rw [hu0];exact hit
      have HBV:=HBC
      have ld:=wload_value XC.out.1
      clear hit hu0 hr
      have HPX:Hid (PRL w3.heap.size 26 (fun j=>j<w.heap.size∨w3.heap.size≤j) w3 items (.slice sp i sc) Wc):=HPR.out.keep HBV.out
      have zc:Below Wc.heap.size Wc (Wc.alloc (.cells #[.int .i64 x.kind,.int .u64 x.num,.string x.text,.slice xq x.list.length xd,.int .i64 x.elem] 26)):=(Below.refl _ _).alloc (Nat.le_refl _) _
      have hPA:=HPX.out.keep zc
      have HPA:=Lib.hid hPA
      have hrow:=hPA.row
      rw [HITL.out] at hrow
      have hBV:=hPA.Bw
      have HYA:Hid (∃ M,LAtP (fun b=>(fun j=>j<w.heap.size∨w3.heap.size≤j) b∧(Value.slice sp i sc).ownBlock≠some b) (Wc.alloc (.cells #[.int .i64 x.kind,.int .u64 x.num,.string x.text,.slice xq x.list.length xd,.int .i64 x.elem] 26)) M (.slice xq x.list.length xd) x.list):=⟨M,hPA.away (P0:=(· <w.heap.size)) (lo:=wr.heap.size) ((HXL.out.latP (by have:=HB1.out.size;have:=HBW.out.size;have:=HBC.out.size;omega)).below zc) (fun b hb _=>⟨.inl hb,.inl (by have:=HB1.out.size;have:=HB3.out.size;omega)⟩) (fun b hb=>(HPR.out.rowBlk hb).2)⟩
      clear zc hPA
      go_wp2_with (at_builtin;go_must (refine wpList_append_own_at _ rfl _ _ 24 rfl w3.heap.size 26 i0 _ 5 64 Tryd.underlying24 hi0 hi1 hi2 hi3 rfl (by decide) (.slice sp i sc) i (cellsL items) rfl hrow ⟨Wc.heap.size,0,none⟩ 1 1 (x.cells (.slice xq x.list.length xd)) rfl rfl (vt_new Wc _ _ _) (vt_one _ _ _ _) hmx hmb hBV ?_;intro v' w6 hown6 hgrow6 hnil6 hat6))
      rw [←HITL.out] at hown6
      obtain ⟨MY,hYA⟩:=HYA.out
      have HP6:Hid (PRL w3.heap.size 26 (fun j=>j<w.heap.size∨w3.heap.size≤j) w3 (items++[(x,.slice xq x.list.length xd)]) v' w6):=HPA.out.push (x:=(x,.slice xq x.list.length xd)) HXF.out hYA hown6 hgrow6 hat6
      have HT6:Hid ((items++[((x,.slice xq x.list.length xd):VT×Value)]).map (·.1)=(longL (rawB bs) fs g).take (i+1)):=longL_takes HFI.out HT.out HIT.out.symm
      clear hown6 hgrow6 hnil6 hat6 hrow hBV hYA
      go_roundw
      case rel=>exact ⟨i+1,_,by go_num,by omega,HT6.out,HP6.out⟩
      case measure=>simp [intOf];omega
     |true=>
      by_cases hk0:((g[i]?).getD zeroT).kind=0
      ·have hk00:=hk0
       obtain ⟨x,hx⟩:∃ x,g[i]? =some x:=⟨_,List.getElem?_eq_getElem (by rw [HNG.out];exact hhas)⟩
       have hu0:(g[i]?).getD zeroT=x:=by rw [hx];rfl
       rw [hu0] at hk0
       clear hk00
       obtain ⟨pb,po,xq,xd,rfl,xf,xat,hpb,xl⟩:=HGV.out wr HBW.out i x hx
       have le:=wload_value (at5_cells (xat.heap (hbb.block pb (by have:=HBW.out.size;omega))))
       have hgi:(i:Int)<(ng:Int):=by omega
       have hgi0:(0:Int)≤(i:Int):=by omega
       obtain ⟨_,_,ls⟩:=HLS.out Wb (HBW.out.trans (hbb.mono HBW.out.size))
       obtain ⟨Wc,hs2,xc,hbc0,hzc⟩:=val_box xb rfl x xq x.list.length xd
       have HBC:Hid (Below wr.heap.size wr Wc):=hbb.trans hbc0
       have XC:=Lib.hid xc
       have HZW:Hid (Wc.heap.size=wr.heap.size+1):=by show _=_;omega
       clear hza hzb
       have HXF:=Lib.hid xf
       have HXL:Hid (LAt w.heap.size Wc M (.slice xq x.list.length xd) x.list):=xl.below (HBC.out.mono (by have:=HB1.out.size;have:=HBW.out.size;omega))
       clear xat xl xf hbc0 hzc xc hx
       have lk:=pload_int (XC.out.cell (j:=0) rfl)
       have hnbi:(i:Int)<(nb:Int):=by omega
       have hnb0:(0:Int)≤(i:Int):=by omega
       obtain ⟨rb,ro,rfl,hcr⟩:=HRB.out Wc (HBW.out.trans (HBC.out.mono HBW.out.size)) i _ hr
       have lr:=pload_bool hcr
       clear hcr
       have hit:longI (rawB bs i) f ((g[i]?).getD zeroT)=f.dflt:=longI_dflt (rawB_at hr) (by rw [hu0];exact hk0)
       rw [hk0] at lk
       have HIT:=Lib.hid hit
       obtain ⟨V,hs3,xv,hbv0,hzv⟩:=val_box XC.out rfl f.dflt none 0 0
       have HBV:Hid (Below wr.heap.size wr V):=HBC.out.trans hbv0
       replace hs3:(Instr.storeAt 26 (.pointer (some ⟨wr.heap.size,0,none⟩)) (.agg #[.int .i64 f.dk,.int .u64 f.dn,.string ⟨f.dt.toArray⟩,.slice none 0 0,.int .i64 0])).run Tryd.prog Wc= .ok () V:=hs3
       have ld:=wload_value xv.1
       have lf:=(HLF.out Wc HBC.out)
       clear hit hu0 hr hk0 hbv0 xv hzv
       have HPX:Hid (PRL w3.heap.size 26 (fun j=>j<w.heap.size∨w3.heap.size≤j) w3 items (.slice sp i sc) V):=HPR.out.keep HBV.out
       have zc:Below V.heap.size V (V.alloc (.cells #[.int .i64 f.dflt.kind,.int .u64 f.dflt.num,.string f.dflt.text,.slice none 0 0,.int .i64 f.dflt.elem] 26)):=(Below.refl _ _).alloc (Nat.le_refl _) _
       have hPA:=HPX.out.keep zc
       have HPA:=Lib.hid hPA
       have hrow:=hPA.row
       rw [HITL.out] at hrow
       have hBV:=hPA.Bw
       have HYA:Hid (∃ M,LAtP (fun b=>(fun j=>j<w.heap.size∨w3.heap.size≤j) b∧(Value.slice sp i sc).ownBlock≠some b) (V.alloc (.cells #[.int .i64 f.dflt.kind,.int .u64 f.dflt.num,.string f.dflt.text,.slice none 0 0,.int .i64 f.dflt.elem] 26)) M (.slice none 0 0) f.dflt.list):=⟨1,LAtP.nil 0 _ _⟩
       clear zc hPA
       go_wp2_with (at_builtin;go_must (refine wpList_append_own_at _ rfl _ _ 24 rfl w3.heap.size 26 i0 _ 5 64 Tryd.underlying24 hi0 hi1 hi2 hi3 rfl (by decide) (.slice sp i sc) i (cellsL items) rfl hrow ⟨V.heap.size,0,none⟩ 1 1 (f.dflt.cells (.slice none 0 0)) rfl rfl (vt_new V _ _ _) (vt_one _ _ _ _) hmx hmb hBV ?_;intro v' w6 hown6 hgrow6 hnil6 hat6))
       rw [←HITL.out] at hown6
       obtain ⟨MY,hYA⟩:=HYA.out
       have HP6:Hid (PRL w3.heap.size 26 (fun j=>j<w.heap.size∨w3.heap.size≤j) w3 (items++[(f.dflt,.slice none 0 0)]) v' w6):=HPA.out.push (x:=(f.dflt,.slice none 0 0)) HDF.out hYA hown6 hgrow6 hat6
       have HT6:Hid ((items++[((f.dflt,.slice none 0 0):VT×Value)]).map (·.1)=(longL (rawB bs) fs g).take (i+1)):=longL_takes HFI.out HT.out HIT.out.symm
       clear hown6 hgrow6 hnil6 hat6 hrow hBV hYA
       go_roundw
       case rel=>exact ⟨i+1,_,by go_num,by omega,HT6.out,HP6.out⟩
       case measure=>simp [intOf];omega
      ·have hk00:=hk0
       obtain ⟨x,hx⟩:∃ x,g[i]? =some x:=⟨_,List.getElem?_eq_getElem (by rw [HNG.out];exact hhas)⟩
       have hu0:(g[i]?).getD zeroT=x:=by rw [hx];rfl
       rw [hu0] at hk0
       clear hk00
       obtain ⟨pb,po,xq,xd,rfl,xf,xat,hpb,xl⟩:=HGV.out wr HBW.out i x hx
       have le:=wload_value (at5_cells (xat.heap (hbb.block pb (by have:=HBW.out.size;omega))))
       have hgi:(i:Int)<(ng:Int):=by omega
       have hgi0:(0:Int)≤(i:Int):=by omega
       obtain ⟨_,_,ls⟩:=HLS.out Wb (HBW.out.trans (hbb.mono HBW.out.size))
       obtain ⟨Wc,hs2,xc,hbc0,hzc⟩:=val_box xb rfl x xq x.list.length xd
       have HBC:Hid (Below wr.heap.size wr Wc):=hbb.trans hbc0
       have XC:=Lib.hid xc
       have HZW:Hid (Wc.heap.size=wr.heap.size+1):=by show _=_;omega
       clear hza hzb
       have HXF:=Lib.hid xf
       have HXL:Hid (LAt w.heap.size Wc M (.slice xq x.list.length xd) x.list):=xl.below (HBC.out.mono (by have:=HB1.out.size;have:=HBW.out.size;omega))
       clear xat xl xf hbc0 hzc xc hx
       have lk:=pload_int (XC.out.cell (j:=0) rfl)
       have hnbi:(i:Int)<(nb:Int):=by omega
       have hnb0:(0:Int)≤(i:Int):=by omega
       obtain ⟨rb,ro,rfl,hcr⟩:=HRB.out Wc (HBW.out.trans (HBC.out.mono HBW.out.size)) i _ hr
       have lr:=pload_bool hcr
       clear hcr
       have hit:longI (rawB bs i) f ((g[i]?).getD zeroT)=(g[i]?).getD zeroT:=longI_keep (.inr (by rw [hu0];exact hk0))
       have hkk:(x.kind==0)=false:=by simp [hk0]
       rw [hu0] at hit
       have HIT:Hid (longI (rawB bs i) f ((g[i]?).getD zeroT)=x):=by show _=_;rw [hu0];exact hit
       have HBV:=HBC
       have ld:=wload_value XC.out.1
       clear hit hu0 hr hk0
       have HPX:Hid (PRL w3.heap.size 26 (fun j=>j<w.heap.size∨w3.heap.size≤j) w3 items (.slice sp i sc) Wc):=HPR.out.keep HBV.out
       have zc:Below Wc.heap.size Wc (Wc.alloc (.cells #[.int .i64 x.kind,.int .u64 x.num,.string x.text,.slice xq x.list.length xd,.int .i64 x.elem] 26)):=(Below.refl _ _).alloc (Nat.le_refl _) _
       have hPA:=HPX.out.keep zc
       have HPA:=Lib.hid hPA
       have hrow:=hPA.row
       rw [HITL.out] at hrow
       have hBV:=hPA.Bw
       have HYA:Hid (∃ M,LAtP (fun b=>(fun j=>j<w.heap.size∨w3.heap.size≤j) b∧(Value.slice sp i sc).ownBlock≠some b) (Wc.alloc (.cells #[.int .i64 x.kind,.int .u64 x.num,.string x.text,.slice xq x.list.length xd,.int .i64 x.elem] 26)) M (.slice xq x.list.length xd) x.list):=⟨M,hPA.away (P0:=(· <w.heap.size)) (lo:=wr.heap.size) ((HXL.out.latP (by have:=HB1.out.size;have:=HBW.out.size;have:=HBC.out.size;omega)).below zc) (fun b hb _=>⟨.inl hb,.inl (by have:=HB1.out.size;have:=HB3.out.size;omega)⟩) (fun b hb=>(HPR.out.rowBlk hb).2)⟩
       clear zc hPA
       go_wp2_with (at_builtin;go_must (refine wpList_append_own_at _ rfl _ _ 24 rfl w3.heap.size 26 i0 _ 5 64 Tryd.underlying24 hi0 hi1 hi2 hi3 rfl (by decide) (.slice sp i sc) i (cellsL items) rfl hrow ⟨Wc.heap.size,0,none⟩ 1 1 (x.cells (.slice xq x.list.length xd)) rfl rfl (vt_new Wc _ _ _) (vt_one _ _ _ _) hmx hmb hBV ?_;intro v' w6 hown6 hgrow6 hnil6 hat6))
       rw [←HITL.out] at hown6
       obtain ⟨MY,hYA⟩:=HYA.out
       have HP6:Hid (PRL w3.heap.size 26 (fun j=>j<w.heap.size∨w3.heap.size≤j) w3 (items++[(x,.slice xq x.list.length xd)]) v' w6):=HPA.out.push (x:=(x,.slice xq x.list.length xd)) HXF.out hYA hown6 hgrow6 hat6
       have HT6:Hid ((items++[((x,.slice xq x.list.length xd):VT×Value)]).map (·.1)=(longL (rawB bs) fs g).take (i+1)):=longL_takes HFI.out HT.out HIT.out.symm
       clear hown6 hgrow6 hnil6 hat6 hrow hBV hYA
       go_roundw
       case rel=>exact ⟨i+1,_,by go_num,by omega,HT6.out,HP6.out⟩
       case measure=>simp [intOf];omega
    ·have hin:¬i<nb:=hr
     clear hr
     obtain ⟨x,hx⟩:∃ x,g[i]? =some x:=⟨_,List.getElem?_eq_getElem (by rw [HNG.out];exact hhas)⟩
     have hu0:(g[i]?).getD zeroT=x:=by rw [hx];rfl
     obtain ⟨pb,po,xq,xd,rfl,xf,xat,hpb,xl⟩:=HGV.out wr HBW.out i x hx
     have le:=wload_value (at5_cells (xat.heap (hbb.block pb (by have:=HBW.out.size;omega))))
     have hgi:(i:Int)<(ng:Int):=by omega
     have hgi0:(0:Int)≤(i:Int):=by omega
     obtain ⟨_,_,ls⟩:=HLS.out Wb (HBW.out.trans (hbb.mono HBW.out.size))
     obtain ⟨Wc,hs2,xc,hbc0,hzc⟩:=val_box xb rfl x xq x.list.length xd
     have HBC:Hid (Below wr.heap.size wr Wc):=hbb.trans hbc0
     have XC:=Lib.hid xc
     have HZW:Hid (Wc.heap.size=wr.heap.size+1):=by show _=_;omega
     clear hza hzb
     have HXF:=Lib.hid xf
     have HXL:Hid (LAt w.heap.size Wc M (.slice xq x.list.length xd) x.list):=xl.below (HBC.out.mono (by have:=HB1.out.size;have:=HBW.out.size;omega))
     clear xat xl xf hbc0 hzc xc hx
     have lk:=pload_int (XC.out.cell (j:=0) rfl)
     have hnbi:¬(i:Int)<(nb:Int):=by omega
     have hit:longI (rawB bs i) f ((g[i]?).getD zeroT)=(g[i]?).getD zeroT:=longI_keep (.inl (rawB_out (by rw [HNB.out];omega)))
     rw [hu0] at hit
     have HIT:Hid (longI (rawB bs i) f ((g[i]?).getD zeroT)=x):=by show _=_;rw [hu0];exact hit
     have HBV:=HBC
     have ld:=wload_value XC.out.1
     clear hit hu0
     have HPX:Hid (PRL w3.heap.size 26 (fun j=>j<w.heap.size∨w3.heap.size≤j) w3 items (.slice sp i sc) Wc):=HPR.out.keep HBV.out
     have zc:Below Wc.heap.size Wc (Wc.alloc (.cells #[.int .i64 x.kind,.int .u64 x.num,.string x.text,.slice xq x.list.length xd,.int .i64 x.elem] 26)):=(Below.refl _ _).alloc (Nat.le_refl _) _
     have hPA:=HPX.out.keep zc
     have HPA:=Lib.hid hPA
     have hrow:=hPA.row
     rw [HITL.out] at hrow
     have hBV:=hPA.Bw
     have HYA:Hid (∃ M,LAtP (fun b=>(fun j=>j<w.heap.size∨w3.heap.size≤j) b∧(Value.slice sp i sc).ownBlock≠some b) (Wc.alloc (.cells #[.int .i64 x.kind,.int .u64 x.num,.string x.text,.slice xq x.list.length xd,.int .i64 x.elem] 26)) M (.slice xq x.list.length xd) x.list):=⟨M,hPA.away (P0:=(· <w.heap.size)) (lo:=wr.heap.size) ((HXL.out.latP (by have:=HB1.out.size;have:=HBW.out.size;have:=HBC.out.size;omega)).below zc) (fun b hb _=>⟨.inl hb,.inl (by have:=HB1.out.size;have:=HB3.out.size;omega)⟩) (fun b hb=>(HPR.out.rowBlk hb).2)⟩
     clear zc hPA
     go_wp2_with (at_builtin;go_must (refine wpList_append_own_at _ rfl _ _ 24 rfl w3.heap.size 26 i0 _ 5 64 Tryd.underlying24 hi0 hi1 hi2 hi3 rfl (by decide) (.slice sp i sc) i (cellsL items) rfl hrow ⟨Wc.heap.size,0,none⟩ 1 1 (x.cells (.slice xq x.list.length xd)) rfl rfl (vt_new Wc _ _ _) (vt_one _ _ _ _) hmx hmb hBV ?_;intro v' w6 hown6 hgrow6 hnil6 hat6))
     rw [←HITL.out] at hown6
     obtain ⟨MY,hYA⟩:=HYA.out
     have HP6:Hid (PRL w3.heap.size 26 (fun j=>j<w.heap.size∨w3.heap.size≤j) w3 (items++[(x,.slice xq x.list.length xd)]) v' w6):=HPA.out.push (x:=(x,.slice xq x.list.length xd)) HXF.out hYA hown6 hgrow6 hat6
     have HT6:Hid ((items++[((x,.slice xq x.list.length xd):VT×Value)]).map (·.1)=(longL (rawB bs) fs g).take (i+1)):=longL_takes HFI.out HT.out HIT.out.symm
     clear hown6 hgrow6 hnil6 hat6 hrow hBV hYA
     go_roundw
     case rel=>exact ⟨i+1,_,by go_num,by omega,HT6.out,HP6.out⟩
     case measure=>simp [intOf];omega
   ·by_cases hr:i<nb
    ·obtain ⟨rv,hr⟩:∃ rv,bs[i]? =some rv:=⟨_,List.getElem?_eq_getElem (by rw [HNB.out];exact hr)⟩
     have hin:i<nb:=by rw [←HNB.out];exact (List.getElem?_eq_some_iff.1 hr).1
     cases rv with
     |false=>
      have hu0:(g[i]?).getD zeroT=zeroT:=by rw [List.getElem?_eq_none (by rw [HNG.out];omega)];rfl
      have hgi:¬(i:Int)<(ng:Int):=by omega
      obtain ⟨_,_,ls⟩:=HLS.out Wb (HBW.out.trans (hbb.mono HBW.out.size))
      have HBC:=Lib.hid hbb
      have XC:=Lib.hid xb
      clear hza hzb
      have lk:=pload_int (XC.out.cell (j:=0) rfl)
      replace lk:(Instr.loadAt 3 (.pointer (some ⟨wr.heap.size,0,none⟩))).run Tryd.prog Wb= .ok (.int .i64 0) Wb:=lk
      have hnbi:(i:Int)<(nb:Int):=by omega
      have hnb0:(0:Int)≤(i:Int):=by omega
      obtain ⟨rb,ro,rfl,hcr⟩:=HRB.out Wb (HBW.out.trans (HBC.out.mono HBW.out.size)) i _ hr
      have lr:=pload_bool hcr
      clear hcr
      have hit:longI (rawB bs i) f ((g[i]?).getD zeroT)=(g[i]?).getD zeroT:=longI_keep (.inl (rawB_at hr))
      rw [hu0] at hit
      have HIT:Hid (longI (rawB bs i) f ((g[i]?).getD zeroT)=zeroT):=by show _=_;rw [hu0];exact hit
      have HBV:=HBC
      have ld0:=wload_value XC.out.1
      have ld:(Instr.loadAt 26 (.pointer (some ⟨wr.heap.size,0,none⟩))).run Tryd.prog Wb= .ok (.agg #[.int .i64 0,.int .u64 0,.string ⟨#[]⟩,.slice none 0 0,.int .i64 0]) Wb:=ld0
      clear ld0
      clear hit hu0 hr
      have HPX:Hid (PRL w3.heap.size 26 (fun j=>j<w.heap.size∨w3.heap.size≤j) w3 items (.slice sp i sc) Wb):=HPR.out.keep HBV.out
      have zc:Below Wb.heap.size Wb (Wb.alloc (.cells #[.int .i64 zeroT.kind,.int .u64 zeroT.num,.string zeroT.text,.slice none 0 0,.int .i64 zeroT.elem] 26)):=(Below.refl _ _).alloc (Nat.le_refl _) _
      have hPA:=HPX.out.keep zc
      have HPA:=Lib.hid hPA
      have hrow:=hPA.row
      rw [HITL.out] at hrow
      have hBV:=hPA.Bw
      have HYA:Hid (∃ M,LAtP (fun b=>(fun j=>j<w.heap.size∨w3.heap.size≤j) b∧(Value.slice sp i sc).ownBlock≠some b) (Wb.alloc (.cells #[.int .i64 zeroT.kind,.int .u64 zeroT.num,.string zeroT.text,.slice none 0 0,.int .i64 zeroT.elem] 26)) M (.slice none 0 0) zeroT.list):=⟨1,LAtP.nil 0 _ _⟩
      clear zc hPA
      go_wp2_with (at_builtin;go_must (refine wpList_append_own_at _ rfl _ _ 24 rfl w3.heap.size 26 i0 _ 5 64 Tryd.underlying24 hi0 hi1 hi2 hi3 rfl (by decide) (.slice sp i sc) i (cellsL items) rfl hrow ⟨Wb.heap.size,0,none⟩ 1 1 (zeroT.cells (.slice none 0 0)) rfl rfl (vt_new Wb _ _ _) (vt_one _ _ _ _) hmx hmb hBV ?_;intro v' w6 hown6 hgrow6 hnil6 hat6))
      rw [←HITL.out] at hown6
      obtain ⟨MY,hYA⟩:=HYA.out
      have HP6:Hid (PRL w3.heap.size 26 (fun j=>j<w.heap.size∨w3.heap.size≤j) w3 (items++[(zeroT,.slice none 0 0)]) v' w6):=HPA.out.push (x:=(zeroT,.slice none 0 0)) zeroT_fine hYA hown6 hgrow6 hat6
      have HT6:Hid ((items++[((zeroT,.slice none 0 0):VT×Value)]).map (·.1)=(longL (rawB bs) fs g).take (i+1)):=longL_takes HFI.out HT.out HIT.out.symm
      clear hown6 hgrow6 hnil6 hat6 hrow hBV hYA
      go_roundw
      case rel=>exact ⟨i+1,_,by go_num,by omega,HT6.out,HP6.out⟩
      case measure=>simp [intOf];omega
     |true=>
      have hu0:(g[i]?).getD zeroT=zeroT:=by rw [List.getElem?_eq_none (by rw [HNG.out];omega)];rfl
      have hgi:¬(i:Int)<(ng:Int):=by omega
      obtain ⟨_,_,ls⟩:=HLS.out Wb (HBW.out.trans (hbb.mono HBW.out.size))
      have HBC:=Lib.hid hbb
      have XC:=Lib.hid xb
      clear hza hzb
      have lk:=pload_int (XC.out.cell (j:=0) rfl)
      replace lk:(Instr.loadAt 3 (.pointer (some ⟨wr.heap.size,0,none⟩))).run Tryd.prog Wb= .ok (.int .i64 0) Wb:=lk
      have hnbi:(i:Int)<(nb:Int):=by omega
      have hnb0:(0:Int)≤(i:Int):=by omega
      obtain ⟨rb,ro,rfl,hcr⟩:=HRB.out Wb (HBW.out.trans (HBC.out.mono HBW.out.size)) i _ hr
      have lr:=pload_bool hcr
      clear hcr
      have hit:longI (rawB bs i) f ((g[i]?).getD zeroT)=f.dflt:=longI_dflt (rawB_at hr) (by rw [hu0];rfl)
      have HIT:=Lib.hid hit
      obtain ⟨V,hs3,xv,hbv0,hzv⟩:=val_box XC.out rfl f.dflt none 0 0
      have HBV:Hid (Below wr.heap.size wr V):=HBC.out.trans hbv0
      replace hs3:(Instr.storeAt 26 (.pointer (some ⟨wr.heap.size,0,none⟩)) (.agg #[.int .i64 f.dk,.int .u64 f.dn,.string ⟨f.dt.toArray⟩,.slice none 0 0,.int .i64 0])).run Tryd.prog Wb= .ok () V:=hs3
      have ld:=wload_value xv.1
      have lf:=(HLF.out Wb HBC.out)
      clear hit hu0 hr hbv0 xv hzv
      have HPX:Hid (PRL w3.heap.size 26 (fun j=>j<w.heap.size∨w3.heap.size≤j) w3 items (.slice sp i sc) V):=HPR.out.keep HBV.out
      have zc:Below V.heap.size V (V.alloc (.cells #[.int .i64 f.dflt.kind,.int .u64 f.dflt.num,.string f.dflt.text,.slice none 0 0,.int .i64 f.dflt.elem] 26)):=(Below.refl _ _).alloc (Nat.le_refl _) _
      have hPA:=HPX.out.keep zc
      have HPA:=Lib.hid hPA
      have hrow:=hPA.row
      rw [HITL.out] at hrow
      have hBV:=hPA.Bw
      have HYA:Hid (∃ M,LAtP (fun b=>(fun j=>j<w.heap.size∨w3.heap.size≤j) b∧(Value.slice sp i sc).ownBlock≠some b) (V.alloc (.cells #[.int .i64 f.dflt.kind,.int .u64 f.dflt.num,.string f.dflt.text,.slice none 0 0,.int .i64 f.dflt.elem] 26)) M (.slice none 0 0) f.dflt.list):=⟨1,LAtP.nil 0 _ _⟩
      clear zc hPA
      go_wp2_with (at_builtin;go_must (refine wpList_append_own_at _ rfl _ _ 24 rfl w3.heap.size 26 i0 _ 5 64 Tryd.underlying24 hi0 hi1 hi2 hi3 rfl (by decide) (.slice sp i sc) i (cellsL items) rfl hrow ⟨V.heap.size,0,none⟩ 1 1 (f.dflt.cells (.slice none 0 0)) rfl rfl (vt_new V _ _ _) (vt_one _ _ _ _) hmx hmb hBV ?_;intro v' w6 hown6 hgrow6 hnil6 hat6))
      rw [←HITL.out] at hown6
      obtain ⟨MY,hYA⟩:=HYA.out
      have HP6:Hid (PRL w3.heap.size 26 (fun j=>j<w.heap.size∨w3.heap.size≤j) w3 (items++[(f.dflt,.slice none 0 0)]) v' w6):=HPA.out.push (x:=(f.dflt,.slice none 0 0)) HDF.out hYA hown6 hgrow6 hat6
      have HT6:Hid ((items++[((f.dflt,.slice none 0 0):VT×Value)]).map (·.1)=(longL (rawB bs) fs g).take (i+1)):=longL_takes HFI.out HT.out HIT.out.symm
      clear hown6 hgrow6 hnil6 hat6 hrow hBV hYA
      go_roundw
      case rel=>exact ⟨i+1,_,by go_num,by omega,HT6.out,HP6.out⟩
      case measure=>simp [intOf];omega
    ·have hin:¬i<nb:=hr
     clear hr
     have hu0:(g[i]?).getD zeroT=zeroT:=by rw [List.getElem?_eq_none (by rw [HNG.out];omega)];rfl
     have hgi:¬(i:Int)<(ng:Int):=by omega
     obtain ⟨_,_,ls⟩:=HLS.out Wb (HBW.out.trans (hbb.mono HBW.out.size))
     have HBC:=Lib.hid hbb
     have XC:=Lib.hid xb
     clear hza hzb
     have lk:=pload_int (XC.out.cell (j:=0) rfl)
     replace lk:(Instr.loadAt 3 (.pointer (some ⟨wr.heap.size,0,none⟩))).run Tryd.prog Wb= .ok (.int .i64 0) Wb:=lk
     have hnbi:¬(i:Int)<(nb:Int):=by omega
     have hit:longI (rawB bs i) f ((g[i]?).getD zeroT)=(g[i]?).getD zeroT:=longI_keep (.inl (rawB_out (by rw [HNB.out];omega)))
     rw [hu0] at hit
     have HIT:Hid (longI (rawB bs i) f ((g[i]?).getD zeroT)=zeroT):=by show _=_;rw [hu0];exact hit
     have HBV:=HBC
     have ld0:=wload_value XC.out.1
     have ld:(Instr.loadAt 26 (.pointer (some ⟨wr.heap.size,0,none⟩))).run Tryd.prog Wb= .ok (.agg #[.int .i64 0,.int .u64 0,.string ⟨#[]⟩,.slice none 0 0,.int .i64 0]) Wb:=ld0
     clear ld0
     clear hit hu0
     have HPX:Hid (PRL w3.heap.size 26 (fun j=>j<w.heap.size∨w3.heap.size≤j) w3 items (.slice sp i sc) Wb):=HPR.out.keep HBV.out
     have zc:Below Wb.heap.size Wb (Wb.alloc (.cells #[.int .i64 zeroT.kind,.int .u64 zeroT.num,.string zeroT.text,.slice none 0 0,.int .i64 zeroT.elem] 26)):=(Below.refl _ _).alloc (Nat.le_refl _) _
     have hPA:=HPX.out.keep zc
     have HPA:=Lib.hid hPA
     have hrow:=hPA.row
     rw [HITL.out] at hrow
     have hBV:=hPA.Bw
     have HYA:Hid (∃ M,LAtP (fun b=>(fun j=>j<w.heap.size∨w3.heap.size≤j) b∧(Value.slice sp i sc).ownBlock≠some b) (Wb.alloc (.cells #[.int .i64 zeroT.kind,.int .u64 zeroT.num,.string zeroT.text,.slice none 0 0,.int .i64 zeroT.elem] 26)) M (.slice none 0 0) zeroT.list):=⟨1,LAtP.nil 0 _ _⟩
     clear zc hPA
     go_wp2_with (at_builtin;go_must (refine wpList_append_own_at _ rfl _ _ 24 rfl w3.heap.size 26 i0 _ 5 64 Tryd.underlying24 hi0 hi1 hi2 hi3 rfl (by decide) (.slice sp i sc) i (cellsL items) rfl hrow ⟨Wb.heap.size,0,none⟩ 1 1 (zeroT.cells (.slice none 0 0)) rfl rfl (vt_new Wb _ _ _) (vt_one _ _ _ _) hmx hmb hBV ?_;intro v' w6 hown6 hgrow6 hnil6 hat6))
     rw [←HITL.out] at hown6
     obtain ⟨MY,hYA⟩:=HYA.out
     have HP6:Hid (PRL w3.heap.size 26 (fun j=>j<w.heap.size∨w3.heap.size≤j) w3 (items++[(zeroT,.slice none 0 0)]) v' w6):=HPA.out.push (x:=(zeroT,.slice none 0 0)) zeroT_fine hYA hown6 hgrow6 hat6
     have HT6:Hid ((items++[((zeroT,.slice none 0 0):VT×Value)]).map (·.1)=(longL (rawB bs) fs g).take (i+1)):=longL_takes HFI.out HT.out HIT.out.symm
     clear hown6 hgrow6 hnil6 hat6 hrow hBV hYA
     go_roundw
     case rel=>exact ⟨i+1,_,by go_num,by omega,HT6.out,HP6.out⟩
     case measure=>simp [intOf];omega
  ·obtain rfl:i=m:=by omega
   have HT':Hid (items.map (·.1)=longL (rawB bs) fs g):=by
    have h1:=HM.out
    exact HT.out.trans (List.take_of_length_le (by rw [longL_len];omega))
   have hil:items.length=i:=by
    have:=congrArg List.length HT'.out
    simp only [List.length_map,longL_len] at this
    have h1:=HM.out
    omega
   obtain ⟨sp0,sc0,rfl⟩:=HPR.out.form
   rw [hil] at HPR ⊢
   have HPQ:Hid (PRL w3.heap.size 26 (fun j=>j<w.heap.size∨w3.heap.size≤j) w3 (items.take i) (.slice sp0 i sc0) wr):=by rw [←hil,List.take_length,hil];exact HPR.out
   have HIL:=Lib.hid hil
   have him13:i≤13:=by have:=HM.out;omega
   cases tail with
   |true=>
    have HPQ':=HPQ
    have hqm:i≤maxLen:=by unfold maxLen;omega
    obtain ⟨scq,hscq⟩:∃ s,sc0=s:=⟨_,rfl⟩
    rw [hscq] at HPQ' ⊢
    clear HT hi HPR hlt hil HPQ hscq
    go_wp2
    go_loopw [11] (fun sv wq=>sv= .slice sp0 i scq∧wr=wq) (fun _ _=>0)
    case atStart=>exact ⟨rfl,rfl⟩
    case round=>
    obtain ⟨rfl,rfl⟩:=hrel
    have HLQ:Hid ((items.take i).length=i):=by show _=i;rw [List.length_take];have:=HIL.out;omega
    obtain ⟨W2,hW2⟩:∃ W2,wr.alloc (.cells #[.int .i64 20,.int .u64 0,.string (nameB k),.slice none 0 0,.int .i64 0,.int .i64 21,.int .u64 0,.string ⟨#[]⟩,.slice sp0 i scq,.int .i64 0] 26)=W2:=⟨_,rfl⟩
    obtain ⟨yb,hz2,zb⟩:=one_box (cs:=[.int .i64 20,.int .u64 0,.string (nameB k),.slice none 0 0,.int .i64 0,.int .i64 21,.int .u64 0,.string ⟨#[]⟩,.slice sp0 i scq,.int .i64 0]) hW2
    have x6:=((X2.out.below HB3.out (by omega)).below HPQ'.out.below (by have:=HB3.out.size;omega)).below zb (by have:=HB3.out.size;have:=HPQ'.out.Bw;omega)
    obtain ⟨X6,hst6,y6,hb6,hz6⟩:=val_box x6 rfl (.mk 24 0 empt 0 []) (some ⟨wr.heap.size,0,none⟩) 2 2
    replace hst6:(Instr.storeAt 26 (.pointer (some ⟨w.heap.size+1,0,none⟩)) (.agg #[.int .i64 24,.int .u64 0,.string ⟨#[]⟩,.slice (some ⟨wr.heap.size,0,none⟩) 2 2,.int .i64 0])).run Tryd.prog W2= .ok () X6:=hst6
    have hsm6:W2.grownBy X6 (some (w.heap.size+1)):=by
     have h1:=wstore_value (t:= .mk 24 0 empt 0 []) (a:=some ⟨wr.heap.size,0,none⟩) (n:=2) (c:=2) (x6.part (o:=0) (n:=5) (by decide))
     have h2:=h1.symm.trans hst6
     cases h2
     exact setCells_grown _ _ _ _
    have HLV:=Lib.hid (ploadVar_value y6.1)
    have HAN:Hid (LongAns k fs g bs true w (.returned (.agg #[.int .i64 24,.int .u64 0,.string ⟨#[]⟩,.slice (some ⟨wr.heap.size,0,none⟩) 2 2,.int .i64 0])) X6):=by
     have hzr:=HPQ'.out.Bw
     have hz33:=HB3.out.size
     have h1:=HPQ'.out.told (Q:=fun j=>j<w.heap.size∨(w3.heap.size≤j∧j≠wr.heap.size)) fun b hb hlt=>hb.imp id fun h=>⟨h,by omega⟩
     have h2:=(h1.keep zb).aside (r:=w.heap.size+1) hsm6 (by omega) (by rintro (h|h)<;>omega)
     refine ⟨w3.heap.size,wr.heap.size,sp0,scq,items.take i,rfl,by omega,hzr,?_,fun e=>?_,by rw [HLQ.out];exact h2,?_,by rw [List.length_take];have:=HIL.out;omega,?_⟩
     ·have:=yb.heap (w':=X6) (hsm6.block _ (by omega) fun e=>by have:=Option.some.inj e;omega)
      rw [HLQ.out];exact this
     ·rw [HLQ.out] at e
      have:=(HPQ'.out.rowBlk e).2
      omega
     ·exact .inl (by rw [List.take_of_length_le (by have:=HIL.out;omega)];exact HT'.out)
     ·exact (HB1.out.trans ((HB3.out.trans (HPQ'.out.below.mono (by omega))).mono (by omega))).trans ((zb.mono (by omega)).trans (hb6.mono (by omega)))
    clear x6 y6 hb6 hz6 hsm6 zb yb
    go_wp2
    exact bodyPost_ret_by (resultsMid rfl rfl HLV.out) rfl HAN.out
   |false=>
   have HKZ:Hid (∀ (j:Nat) (x:VT×Value),i≤j→items[j]? =some x→x.1.kind=0):=fun j x hj hx=>by have:=(List.getElem?_eq_some_iff.1 hx).1;omega
   clear HT hi HPR hlt hil
   go_wp2
   go_loopw [11] (fun sv wq=>∃ (q:Nat) (sp:Option Addr) (sc:Nat),sv= .slice sp q sc∧q≤i∧Hid (∀ (j:Nat) (x:VT×Value),q≤j→items[j]? =some x→x.1.kind=0)∧Hid (PRL w3.heap.size 26 (fun j=>j<w.heap.size∨w3.heap.size≤j) w3 (items.take q) sv wq)) (fun sv _=>match sv with| .slice _ q _=>q|_=>0)
   case atStart=>exact ⟨i,sp0,sc0,rfl,Nat.le_refl _,HKZ.out,HPQ.out⟩
   case round=>
    obtain ⟨q,spq,scq,rfl,hq,HKQ,HPQ'⟩:=hrel
    have hqm:q≤maxLen:=by unfold maxLen;omega
    by_cases hq0:q=0
    ·subst hq0
     have HEX:Hid (0=0∨∃ x,(items.map (·.1))[0-1]? =some x∧x.kind≠0):= .inl rfl
     have HLQ:Hid ((items.take 0).length=0):=by show _=0;rw [List.length_take];have:=HIL.out;omega
     obtain ⟨W2,hW2⟩:∃ W2,wr.alloc (.cells #[.int .i64 20,.int .u64 0,.string (nameB k),.slice none 0 0,.int .i64 0,.int .i64 21,.int .u64 0,.string ⟨#[]⟩,.slice spq 0 scq,.int .i64 0] 26)=W2:=⟨_,rfl⟩
     obtain ⟨yb,hz2,zb⟩:=one_box (cs:=[.int .i64 20,.int .u64 0,.string (nameB k),.slice none 0 0,.int .i64 0,.int .i64 21,.int .u64 0,.string ⟨#[]⟩,.slice spq 0 scq,.int .i64 0]) hW2
     have x6:=((X2.out.below HB3.out (by omega)).below HPQ'.out.below (by have:=HB3.out.size;omega)).below zb (by have:=HB3.out.size;have:=HPQ'.out.Bw;omega)
     obtain ⟨X6,hst6,y6,hb6,hz6⟩:=val_box x6 rfl (.mk 24 0 empt 0 []) (some ⟨wr.heap.size,0,none⟩) 2 2
     replace hst6:(Instr.storeAt 26 (.pointer (some ⟨w.heap.size+1,0,none⟩)) (.agg #[.int .i64 24,.int .u64 0,.string ⟨#[]⟩,.slice (some ⟨wr.heap.size,0,none⟩) 2 2,.int .i64 0])).run Tryd.prog W2= .ok () X6:=hst6
     have hsm6:W2.grownBy X6 (some (w.heap.size+1)):=by
      have h1:=wstore_value (t:= .mk 24 0 empt 0 []) (a:=some ⟨wr.heap.size,0,none⟩) (n:=2) (c:=2) (x6.part (o:=0) (n:=5) (by decide))
      have h2:=h1.symm.trans hst6
      cases h2
      exact setCells_grown _ _ _ _
     have HLV:=Lib.hid (ploadVar_value y6.1)
     have HAN:Hid (LongAns k fs g bs false w (.returned (.agg #[.int .i64 24,.int .u64 0,.string ⟨#[]⟩,.slice (some ⟨wr.heap.size,0,none⟩) 2 2,.int .i64 0])) X6):=by
      have hzr:=HPQ'.out.Bw
      have hz33:=HB3.out.size
      have h1:=HPQ'.out.told (Q:=fun j=>j<w.heap.size∨(w3.heap.size≤j∧j≠wr.heap.size)) fun b hb hlt=>hb.imp id fun h=>⟨h,by omega⟩
      have h2:=(h1.keep zb).aside (r:=w.heap.size+1) hsm6 (by omega) (by rintro (h|h)<;>omega)
      refine ⟨w3.heap.size,wr.heap.size,spq,scq,items.take 0,rfl,by omega,hzr,?_,fun e=>?_,by rw [HLQ.out];exact h2,?_,by rw [List.length_take];have:=HIL.out;omega,?_⟩
      ·have:=yb.heap (w':=X6) (hsm6.block _ (by omega) fun e=>by have:=Option.some.inj e;omega)
       rw [HLQ.out];exact this
      ·rw [HLQ.out] at e
       have:=(HPQ'.out.rowBlk e).2
       omega
      ·refine .inr ⟨rfl,?_⟩
       rw [←HT'.out,trim_at (items.map (·.1)) 0 (by rw [List.length_map];have:=HIL.out;omega) (fun j x hj hx=>by
        rw [List.getElem?_map] at hx
        obtain ⟨y,hy,rfl⟩:=Option.map_eq_some_iff.1 hx
        exact HKQ.out j y hj hy) HEX.out,List.map_take]
      ·exact (HB1.out.trans ((HB3.out.trans (HPQ'.out.below.mono (by omega))).mono (by omega))).trans ((zb.mono (by omega)).trans (hb6.mono (by omega)))
     clear x6 y6 hb6 hz6 hsm6 zb yb
     go_wp2
     exact bodyPost_ret_by (resultsMid rfl rfl HLV.out) rfl HAN.out
    ·obtain ⟨q,rfl⟩:∃ q',q=q'+1:=⟨q-1,by omega⟩
     obtain ⟨x,hx⟩:∃ x,items[q]? =some x:=⟨_,List.getElem?_eq_getElem (by have:=HIL.out;omega)⟩
     have hxq:(items.take (q+1))[q]? =some x:=by rw [List.getElem?_take_of_lt (by omega)];exact hx
     obtain ⟨g9,cc,e,ha, -, -⟩:=HPQ'.out.at hxq
     simp only [Value.slice.injEq] at e
     obtain ⟨rfl, -, -⟩:=e
     have hq1:(0:Int)<((q+1:Nat):Int):=by omega
     have l7:=pload_int ha.kind
     have hqs:IntKind.i64.wrap ((q:Int)+1-1)=(q:Int):=by rw [IntKind.wrap_i64];omega
     have hqs2:((q:Int)+1).toNat=q+1:=by omega
     have hcq:q≤scq:=by have:=HPQ'.out.cap;omega
     clear ha hxq
     by_cases hk0:x.1.kind=0
     ·have HKN:Hid (∀ (j:Nat) (y:VT×Value),q≤j→items[j]? =some y→y.1.kind=0):=fun j y hj hy=>by
       rcases Nat.lt_or_ge q j with h|h
       ·exact HKQ.out j y h hy
       ·obtain rfl:q=j:=by omega
        rw [hx] at hy;cases hy;exact hk0
      have HPN:Hid (PRL w3.heap.size 26 (fun j=>j<w.heap.size∨w3.heap.size≤j) w3 (items.take q) (.slice (some ⟨g9,0,none⟩) q scq) wr):=by
       have:=HPQ'.out.cut (m:=q) (by omega)
       rwa [List.take_take,Nat.min_eq_left (by omega)] at this
      rw [hk0] at l7
      clear hx hk0
      go_wp2
      exact ⟨⟨q,_,_,rfl,by omega,HKN.out,HPN.out⟩,by simp⟩
     ·have HEX:Hid (q+1=0∨∃ x,(items.map (·.1))[q+1-1]? =some x∧x.kind≠0):= .inr ⟨x.1,by show (items.map (·.1))[q]? =_;rw [List.getElem?_map,hx];rfl,hk0⟩
      have hkk:(x.1.kind==0)=false:=by simp [hk0]
      clear hx
      have HLQ:Hid ((items.take (q+1)).length=(q+1)):=by show _=(q+1);rw [List.length_take];have:=HIL.out;omega
      obtain ⟨W2,hW2⟩:∃ W2,wr.alloc (.cells #[.int .i64 20,.int .u64 0,.string (nameB k),.slice none 0 0,.int .i64 0,.int .i64 21,.int .u64 0,.string ⟨#[]⟩,.slice (some ⟨g9,0,none⟩) (q+1) scq,.int .i64 0] 26)=W2:=⟨_,rfl⟩
      obtain ⟨yb,hz2,zb⟩:=one_box (cs:=[.int .i64 20,.int .u64 0,.string (nameB k),.slice none 0 0,.int .i64 0,.int .i64 21,.int .u64 0,.string ⟨#[]⟩,.slice (some ⟨g9,0,none⟩) (q+1) scq,.int .i64 0]) hW2
      have x6:=((X2.out.below HB3.out (by omega)).below HPQ'.out.below (by have:=HB3.out.size;omega)).below zb (by have:=HB3.out.size;have:=HPQ'.out.Bw;omega)
      obtain ⟨X6,hst6,y6,hb6,hz6⟩:=val_box x6 rfl (.mk 24 0 empt 0 []) (some ⟨wr.heap.size,0,none⟩) 2 2
      replace hst6:(Instr.storeAt 26 (.pointer (some ⟨w.heap.size+1,0,none⟩)) (.agg #[.int .i64 24,.int .u64 0,.string ⟨#[]⟩,.slice (some ⟨wr.heap.size,0,none⟩) 2 2,.int .i64 0])).run Tryd.prog W2= .ok () X6:=hst6
      have hsm6:W2.grownBy X6 (some (w.heap.size+1)):=by
       have h1:=wstore_value (t:= .mk 24 0 empt 0 []) (a:=some ⟨wr.heap.size,0,none⟩) (n:=2) (c:=2) (x6.part (o:=0) (n:=5) (by decide))
       have h2:=h1.symm.trans hst6
       cases h2
       exact setCells_grown _ _ _ _
      have HLV:=Lib.hid (ploadVar_value y6.1)
      have HAN:Hid (LongAns k fs g bs false w (.returned (.agg #[.int .i64 24,.int .u64 0,.string ⟨#[]⟩,.slice (some ⟨wr.heap.size,0,none⟩) 2 2,.int .i64 0])) X6):=by
       have hzr:=HPQ'.out.Bw
       have hz33:=HB3.out.size
       have h1:=HPQ'.out.told (Q:=fun j=>j<w.heap.size∨(w3.heap.size≤j∧j≠wr.heap.size)) fun b hb hlt=>hb.imp id fun h=>⟨h,by omega⟩
       have h2:=(h1.keep zb).aside (r:=w.heap.size+1) hsm6 (by omega) (by rintro (h|h)<;>omega)
       refine ⟨w3.heap.size,wr.heap.size,(some ⟨g9,0,none⟩),scq,items.take (q+1),rfl,by omega,hzr,?_,fun e=>?_,by rw [HLQ.out];exact h2,?_,by rw [List.length_take];have:=HIL.out;omega,?_⟩
       ·have:=yb.heap (w':=X6) (hsm6.block _ (by omega) fun e=>by have:=Option.some.inj e;omega)
        rw [HLQ.out];exact this
       ·rw [HLQ.out] at e
        have:=(HPQ'.out.rowBlk e).2
        omega
       ·refine .inr ⟨rfl,?_⟩
        rw [←HT'.out,trim_at (items.map (·.1)) (q+1) (by rw [List.length_map];have:=HIL.out;omega) (fun j x hj hx=>by
         rw [List.getElem?_map] at hx
         obtain ⟨y,hy,rfl⟩:=Option.map_eq_some_iff.1 hx
         exact HKQ.out j y hj hy) HEX.out,List.map_take]
       ·exact (HB1.out.trans ((HB3.out.trans (HPQ'.out.below.mono (by omega))).mono (by omega))).trans ((zb.mono (by omega)).trans (hb6.mono (by omega)))
      clear x6 y6 hb6 hz6 hsm6 zb yb
      go_wp2
      exact bodyPost_ret_by (resultsMid rfl rfl HLV.out) rfl HAN.out
end Go.Proofs.YtfoiaiblggapeaaDoor.Va
namespace Go.Proofs.YtfoiaiblggapeaaDoor.Va
open Go Go.RowKit Nu Uc Fd Go.Proofs.YtfoiaiblggapeaaDoor.Nm
theorem name_small {k:Int} {fs:List FT} (h:fieldsT k=some fs):(nameB k).size≤100:=by
 obtain ⟨e,he,rfl,_⟩:=fieldsT_mem h
 have hb:∀ e∈tab,(nameB e.1).size≤100:=by decide+kernel
 exact hb e he
def formCells (k:Int) (v:Value):List Value:=[.int .i64 20,.int .u64 0,.string (nameB k),.slice none 0 0,.int .i64 0,.int .i64 21,.int .u64 0,.string ⟨#[]⟩,v,.int .i64 0]
theorem form_lat {X:World} {b M n c:Nat} {p:Option Addr} {k:Int} {L:List VT} (hx:Box X b (formCells k (.slice p n c))) (hb:b<X.heap.size) (hl:LAt X.heap.size X M (.slice p n c) L) (hn:(nameB k).size≤100):
 LAt X.heap.size X (M+2) (.slice (some ⟨b,0,none⟩) 2 2) [.mk 20 0 (nameB k) 0 [],.mk 21 0 empt 0 L]:=by
 refine .inr ⟨b,0,2,rfl,hb,(by show 2≤maxLen;decide),fun i t ht=>?_⟩
 match i,ht with
 |0,ht=>
  cases ht
  exact ⟨⟨by show _≤(20:Int);omega,by show (20:Int)≤_;omega,by show (0:Int)≤0;omega,by show (0:Int)≤_;omega,by show _≤(0:Int);omega,by show (0:Int)≤_;omega,by show (nameB k).size≤_;exact Nat.le_trans hn (by decide)⟩,.slice none 0 0,⟨hx.cell (j:=0) rfl,hx.cell (j:=1) rfl,hx.cell (j:=2) rfl,hx.cell (j:=3) rfl,hx.cell (j:=4) rfl⟩,.inl ⟨rfl,_,_,rfl⟩⟩
 |1,ht=>
  cases ht
  exact ⟨⟨by show _≤(21:Int);omega,by show (21:Int)≤_;omega,by show (0:Int)≤0;omega,by show (0:Int)≤_;omega,by show _≤(0:Int);omega,by show (0:Int)≤_;omega,by show empt.size≤_;decide⟩,.slice p n c,⟨hx.cell (j:=5) rfl,hx.cell (j:=6) rfl,hx.cell (j:=7) rfl,hx.cell (j:=8) rfl,hx.cell (j:=9) rfl⟩,hl.mono (by omega)⟩
 |i+2,ht=>simp at ht
theorem longV_fine (k:Int) (L:List VT):(longV k L).Fine:=⟨by show _≤(24:Int);omega,by show (24:Int)≤_;omega,by show (0:Int)≤0;omega,by show (0:Int)≤_;omega,by show _≤(0:Int);omega,by show (0:Int)≤_;omega,by show empt.size≤_;decide⟩
theorem pstore_bool {w:World} {b:Nat} {x:Bool} {u:Value} (hc:w.cell? ⟨b,0,none⟩=some u) (hf:w.frozen? ⟨b,0,none⟩=false):(Instr.storeAt 4 (.pointer (some ⟨b,0,none⟩)) (.bool x)).run Tryd.prog w= .ok () (w.setCell ⟨b,0,none⟩ (.bool x)):=by
 have:=Tryd.underlying4
 have:=Tryd.sizeOf4
 go_simp
theorem bool_box {v:World} {b:Nat} {u:Value} (h:Box v b [u]) (x:Bool):∃ X,(Instr.storeAt 4 (.pointer (some ⟨b,0,none⟩)) (.bool x)).run Tryd.prog v= .ok () X∧Box X b [.bool x]∧Below b v X∧X.heap.size=v.heap.size:=by
 refine ⟨v.setCells b 0 [.bool x],?_,h.all rfl,setCells_below' (Nat.le_refl _) _ _,setCells_sz _ _ _ _⟩
 exact pstore_bool (h.cell (j:=0) rfl) (h.froz (j:=0) (Nat.zero_lt_one))
theorem there_row {B m:Nat} {w:World} {T:TypeId} {v:Value} {cs:List Value} (h:w.ownsRow B T 5 v (m+1) cs):∃ g c,v= .slice (some ⟨g,0,none⟩) (m+1) c∧w.there g (m*5) 5:=by
 rcases h.2 with ⟨_,h0⟩|⟨g,cap,cur,e,hb,hg,hnc,hcm,hcs,htk⟩
 ·omega
 ·refine ⟨g,cap,e,fun j hj=>⟨?_,by unfold World.frozen?;rw [hg];simp⟩⟩
  unfold World.cell?
  rw [hg]
  have:m*5+j<cur.size:=by rw [hcs];omega
  simpa using this
theorem form_push {B b m c:Nat} {k:Int} {p:Option Addr} {P:Nat→Prop} {W U A w6:World} {its:List (VT×Value)} {v':Value} (h:PRL B 26 P W its (.slice p m c) A) (hx:Box A b (formCells k (.slice p m c))) (hb:b<A.heap.size) (hbB:B≤b) (hP:¬P b) (hne:(Value.slice p m c).ownBlock≠some b) (hl:its.length=m) (hm:m≤13) (hks:(nameB k).size≤100)
 (hUA:Below U.heap.size U A) (hbU:b<U.heap.size)
 (hown:w6.ownsRow B 26 5 v' (m+1) (cellsL its++zeroT.cells (.slice none 0 0))) (hg:A.grownBy w6 (Value.slice p m c).ownBlock) (hat:v'.ownBlock=(Value.slice p m c).ownBlock∨v'.ownBlock=some A.heap.size):
 ∃ g c6 X,v'= .slice (some ⟨g,0,none⟩) (m+1) c6∧(Instr.storeAt 24 (.pointer (some ⟨b,8,none⟩)) (.slice (some ⟨g,0,none⟩) (m+1) c6)).run Tryd.prog w6= .ok () X∧
   (Instr.storeAt 26 (.pointer (some ⟨g,m*5,none⟩)) (.agg #[.int .i64 0,.int .u64 0,.string ⟨#[]⟩,.slice none 0 0,.int .i64 0])).run Tryd.prog X= .ok () X∧
   (∃ M,LAt X.heap.size X M (.slice (some ⟨b,0,none⟩) 2 2) (longV k (its.map (·.1)++[zeroT])).list)∧U.heap.size≤w6.heap.size∧Below B U w6∧Below B U X∧
   (∀ j,j<U.heap.size→(Value.slice p m c).ownBlock≠some j→w6.heap[j]? =U.heap[j]?)∧(∀ j,j<U.heap.size→j≠b→(Value.slice p m c).ownBlock≠some j→X.heap[j]? =U.heap[j]?):=by
 rw [←hl] at hown
 have h6:PRL B 26 P W (its++[(zeroT,.slice none 0 0)]) v' w6:=by
  refine h.push (x:=(zeroT,.slice none 0 0)) (n:=1) zeroT_fine (LAtP.nil 0 _ _) ?_ hg hat
  exact hown
 rw [hl] at hown
 obtain ⟨g,c6,rfl,hth⟩:=there_row hown
 have hb6:w6.heap[b]? =A.heap[b]? :=hg.block b hb (fun e=>hne e.symm)
 have hx6:=hx.heap hb6
 have hst:(Instr.storeAt 24 (.pointer (some ⟨b,8,none⟩)) (.slice (some ⟨g,0,none⟩) (m+1) c6)).run Tryd.prog w6= .ok () (w6.setCells b 8 [.slice (some ⟨g,0,none⟩) (m+1) c6]):=pstore_slice (hx6.part (o:=8) (n:=1) (by show 8+1≤10;decide))
 have hgb:g≠b:=fun e=>by
  subst e
  rcases hat with e|e
  ·exact hne e.symm
  ·have:=Option.some.inj (show some g=some A.heap.size from e);omega
 have hv6:(Value.slice (some ⟨g,0,none⟩) (m+1) c6).ownBlock≠some b:=fun e=>hgb (Option.some.inj e)
 have hz:(w6.setCells b 8 [.slice (some ⟨g,0,none⟩) (m+1) c6]).heap.size=w6.heap.size:=setCells_sz _ _ _ _
 have hgr:w6.grownBy (w6.setCells b 8 [.slice (some ⟨g,0,none⟩) (m+1) c6]) (some b):=setCells_grown _ _ _ _
 have h7:=h6.beside hgr hv6 hP
 have hxX:Box (w6.setCells b 8 [.slice (some ⟨g,0,none⟩) (m+1) c6]) b (formCells k (.slice (some ⟨g,0,none⟩) (m+1) c6)):=by
  refine hx6.set (by show 8+1≤10;decide) rfl (fun j u hu=>?_) (fun j hj=>?_)
  ·match j,hu with
   |0,hu=>exact hu
   |j+1,hu=>simp at hu
  ·match j,hj with
   |0,_=>rfl
   |1,_=>rfl
   |2,_=>rfl
   |3,_=>rfl
   |4,_=>rfl
   |5,_=>rfl
   |6,_=>rfl
   |7,_=>rfl
   |8,hj=>exact absurd hj (by simp)
   |j+9,_=>cases j<;>rfl
 have hzU:U.heap.size≤A.heap.size:=hUA.size
 have hz6:A.heap.size≤w6.heap.size:=hg.size
 have hk6:∀ j,j<U.heap.size→(Value.slice p m c).ownBlock≠some j→w6.heap[j]? =U.heap[j]? :=fun j hj hn=>(hg.block j (by omega) (fun e=>hn e.symm)).trans (hUA.block j hj)
 have hBel6:Below B U w6:=(hUA.mono (by have:=h.Bw;omega)).grown hg h.Bw fun k e=>(h.rowBlk e).1
 refine ⟨g,c6,_,rfl,hst,?_,?_,by omega,hBel6,hBel6.trans (setCells_below' hbB _ _),hk6,fun j hj hjb hn=>(setCells_other hjb _ _).trans (hk6 j hj hn)⟩
 ·obtain ⟨g',c',e,ha, -, -⟩:=h7.at (i:=m) (x:=(zeroT,.slice none 0 0)) (by rw [←hl];simp)
  simp only [Value.slice.injEq,Option.some.injEq,Addr.mk.injEq,and_true] at e
  obtain ⟨rfl, -, -⟩:=e
  have h1:=wstore_value (t:=zeroT) (a:=none) (n:=0) (c:=0) (World.there_setCells hth b 8 [.slice (some ⟨g,0,none⟩) (m+1) c6])
  rw [setCells_again (fun j u hu=>at5_cells ha j u hu)] at h1
  exact h1
 ·obtain ⟨M,hM⟩:=h7.all (by rw [List.length_append,hl];show m+1≤maxLen;unfold maxLen;omega)
  rw [List.map_append] at hM
  exact ⟨M+2,form_lat hxX (by omega) hM hks⟩
end Go.Proofs.YtfoiaiblggapeaaDoor.Va
