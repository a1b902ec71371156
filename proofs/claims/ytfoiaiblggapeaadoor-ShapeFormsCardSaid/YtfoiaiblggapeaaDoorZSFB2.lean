/-
  The texts P5 of this claim, one behind the other.
-/
import Derived.Test.YtfoiaiblggapeaaDoorZSFB1
namespace Go.Proofs.YtfoiaiblggapeaaDoor.Va
open Go Go.RowKit Nu Uc Fd Go.Proofs.YtfoiaiblggapeaaDoor.Nm
attribute [-go_sem] Go.Instr.loadAt Go.Instr.storeAt
def ReadC (n:Nat):Prop:=∀ (B N:Nat) (f:FT) (t:VT) (lv:Value) (w:World),Env w→t.Fine→LAt B w N lv t.list→B≤w.heap.size→f.type=102→rkO (kindOf t)<n→(nodes t+13)*2^n≤800000000→
    Calls Tryd.prog 60 #[t.agg lv] w fun r w'=>ReadAns (readF n f t) w r w'
def PackS (n:Nat):Prop:=∀ (B N:Nat) (k:Int) (fs:List FT) (l:List VT) (lv:Value) (w:World),Env w→fieldsT k=some fs→l.length=fs.length→LAt B w N lv l→B≤w.heap.size→rk k≤n→(nodesL l+13)*2^n≤800000000→
    (∀ (j:Nat) (f:FT) (v:VT),fs[j]? =some f→l[j]? =some v→v.kind=0∨eqT v f.dflt=true∨wantedT f v=true)→
    Calls Tryd.prog 28 #[.agg #[.int .i64 k,lv]] w fun r w'=>∃ lv' us,r= .returned ((packF n k l).agg lv')∧OL w' LV lv' (packF n k l).list us∧Blk w.heap.size w'.heap.size us∧ApartV us∧Below w.heap.size w w'
theorem fieldsT_bound {k:Int} {fs:List FT} (h:fieldsT k=some fs):0≤k∧k≤120:=by
 obtain ⟨e,he,hk,_⟩:=fieldsT_mem h
 have:∀ e∈tab,e.1<121:=by decide
 have:=this e he
 omega
theorem lit_vat (f:FT) (w:World) (hg:0≤f.dn∧f.dn≤18446744073709551615∧0≤f.dk∧f.dk≤100∧f.dt.length≤100):VAt 0 w 1 (.agg #[.int .i64 f.dk,.int .u64 f.dn,.string ⟨f.dt.toArray⟩,.slice none 0 0,.int .i64 0]) f.dflt:=
 ⟨⟨by show _≤f.dk;omega,by show f.dk≤_;omega,hg.1,hg.2.1,by show _≤(0:Int);omega,by show (0:Int)≤_;omega,by show f.dt.toArray.size≤_;simp [maxLen];omega⟩,_,rfl,.inl ⟨rfl,_,_,rfl⟩⟩
theorem tab_lit:∀ e∈tab,∀ f∈e.2,0≤f.dn∧f.dn≤18446744073709551615∧0≤f.dk∧f.dk≤100∧f.dt.length≤100:=by decide
theorem field_lit {k:Int} {fs:List FT} (h:fieldsT k=some fs) {f:FT} (hf:f∈fs):0≤f.dn∧f.dn≤18446744073709551615∧0≤f.dk∧f.dk≤100∧f.dt.length≤100:=by
 obtain ⟨e,he,_,rfl⟩:=fieldsT_mem h
 exact tab_lit e he f hf
theorem pload_rec {w:World} {b:Nat} {k:Int} {lv:Value} (h:Box w b [.int .i64 k,lv]):(Instr.loadAt 31 (.pointer (some ⟨b,0,none⟩))).run Tryd.prog w= .ok (.agg #[.int .i64 k,lv]) w:=
 Go.run_loadAt_mid w b 0 31 [.int .i64 k,lv] _ h.1 Tryd.underlying31 rfl (by kernel_rfl)
theorem zeroT_fine:zeroT.Fine:=⟨by decide,by decide,by decide,by decide,by decide,by decide,by decide⟩
theorem ReadAns.get {a:Except Int VT} {w w':World} {r:Ending} (h:ReadAns a w r w'):Below w.heap.size w w'∧∃ q d us e,r= .returned (.tuple #[(okV a).agg (.slice q (okV a).list.length d),.int .i64 e])∧(okV a).Fine∧OL w' LV (.slice q (okV a).list.length d) (okV a).list us∧Blk w.heap.size w'.heap.size us∧ApartV us:=by
 obtain ⟨hb,h⟩:=h
 refine ⟨hb,?_⟩
 cases a with
 |ok y=>
  obtain ⟨lv,us,h1,h2,h3,h4,h5⟩:=h
  obtain ⟨q,d,rfl⟩:=h3.slice
  exact ⟨q,d,us,0,h1,h2,h3,h4,h5⟩
 |error e=>exact ⟨none,0,[.slice none 0 0],e,h,zeroT_fine,OL.nil _ _,Blk.none _ _,ApartV.one _⟩
theorem zipT_take {rd:Rd} {fs:List FT} {l:List VT} {i:Nat} {f:FT} {v:VT} (hf:fs[i]? =some f) (hv:l[i]? =some v):(List.zipWith (itemP rd) fs l).take (i+1)=(List.zipWith (itemP rd) fs l).take i++[itemP rd f v]:=by
 rw [List.take_add_one,zip_get hf hv];rfl
set_option maxRecDepth 100000 in
set_option maxHeartbeats 8000000 in
theorem pack_of {n:Nat} (hRC:ReadC n):PackS n:=by
 intro B N k fs l lv w hE hfs hll hl hB hrk hnd hrdy
 have hnd2:nodesL l≤800000000:=by have:=Nat.le_mul_of_pos_right (nodesL l+13) (Nat.two_pow_pos n);omega
 obtain ⟨p,c,rfl⟩:=hl.slice
 have hkb:=fieldsT_bound hfs
 have hfl:=fieldsT_len hfs
 obtain ⟨W1,hW1⟩:∃ W1,(w.alloc (.cells #[.int .i64 k,.slice p l.length c] 31)).alloc (.cells #[.int .i64 0,.int .u64 0,.string ⟨#[]⟩,.slice none 0 0,.int .i64 0] 26)=W1:=⟨_,rfl⟩
 obtain ⟨x1,x2,hz1,hb1⟩:=two_boxes (cs:=[.int .i64 k,.slice p l.length c]) (ds:=zeroT.cells (.slice none 0 0)) hW1
 have l0:=pload_int (x1.cell (j:=0) rfl)
 have X1:=Lib.hid x1
 have X2:=Lib.hid x2
 have HB1:=Lib.hid hb1
 have HE1:=Lib.hid (hE.below hb1)
 have HL:=Lib.hid hl
 have HFS:=Lib.hid hfs
 have HRD:=Lib.hid hrdy
 have HND:=Lib.hid hnd
 have hfk:=fields_any k W1
 unfold FieldsAns at hfk
 rw [hfs] at hfk
 have HFK:=Lib.hid hfk
 have HRC:=Lib.hid hRC
 obtain ⟨R,hR⟩:∃ R,packF n k l=R:=⟨_,rfl⟩
 have HR:Hid (R=packV k (trimT (List.zipWith (itemP (readF n)) fs l))):=by
  show R=_
  rw [←hR]
  show packG (readF n) k l=_
  unfold packG
  rw [hfs];rfl
 rw [hR]
 obtain ⟨m,hm⟩:∃ m,l.length=m:=⟨_,rfl⟩
 have Hm:=Lib.hid hm
 have hfm:fs.length=m:=by omega
 have Hfm:=Lib.hid hfm
 rw [hm] at hW1 X1 HL ⊢
 have hm13:m≤13:=by omega
 clear hl x1 x2 hb1 hE hfs hrdy hnd hfk hRC hR hm hfm hll hfl
 go_enter Tryd.func28,Tryd.ntmps28
 go_wp2_with (fail)
 clear hW1 l0
 refine HFK.out.mono ?_
 rintro r w2 ⟨vf,rfl,hfo,hb2⟩
 have z2:=hb2.size
 have X1b:=Lib.hid (X1.out.below hb2 (by omega))
 have X2b:=Lib.hid (X2.out.below hb2 (by omega))
 have HB2:=Lib.hid (HB1.out.trans (hb2.mono (by omega)))
 have HE2:=Lib.hid (HE1.out.below hb2)
 have HFO:=Lib.hid hfo
 have hfo':FsOwn W1.heap.size w2.heap.size w2 vf fs:=hfo
 obtain ⟨fp,fc,rfl,hu⟩:=hfo'.view
 rw [Hfm.out] at HFO ⊢
 have l2:=wload_slice (X1b.out.cell (j:=1) rfl)
 have HL2:=Lib.hid (HL.out.below (HB2.out.mono hB))
 have HP0:Hid (PRel w2.heap.size 26 w2 [] (.slice none 0 0) w2):=PRel.start w2
 clear hb2 hfo hu HFK HL
 simp only [Option.isSome_some]
 go_wp2
 clear l2
 obtain ⟨i0,hi0,hi1,hi2,hi3⟩:=info_parts infoVV
 go_loopw [5,17] (fun sv iv wr=>∃ (i:Nat) (items:List PItem),iv= .int .i64 i∧i≤m∧Hid (itemsT items=(List.zipWith (itemP (readF n)) fs l).take i)∧Hid (PRel w2.heap.size 26 w2 items sv wr)) (fun _ iv _=>m-(intOf iv).toNat)
 case atStart=>exact ⟨0,[],rfl,Nat.zero_le _,(by show itemsT []=_;simp [itemsT]),HP0.out⟩
 case round=>
  obtain ⟨i,items,rfl,hi,HT,HPR⟩:=hrel
  by_cases hlt:i<m
  ·obtain ⟨x,hx⟩:∃ x,l[i]? =some x:=⟨_,List.getElem?_eq_getElem (by rw [Hm.out];exact hlt)⟩
   obtain ⟨f,hf⟩:∃ f,fs[i]? =some f:=⟨_,List.getElem?_eq_getElem (by rw [Hfm.out];exact hlt)⟩
   have hitl:items.length=i:=by
    have:=congrArg List.length HT.out
    simp only [itemsT,List.length_map,List.length_take,List.length_zipWith] at this
    have h1:=Hm.out;have h2:=Hfm.out
    omega
   cases N with
   |zero=>exact HL2.out.elim
   |succ N=>
   rcases HL2.out with ⟨h0,_⟩|⟨b,off,c',hp,hbB,_,hel⟩
   ·exfalso;have:=Hm.out;rw [h0] at this;simp at this;omega
   rw [Hm.out] at hp
   cases hp
   obtain ⟨xf,xlv,xat,xl⟩:=hel i x hx
   obtain ⟨xq,xd,rfl⟩:=xl.slice
   have hBwr:Below B w2 wr:=HPR.out.below.mono (by have:=HB2.out.size;omega)
   have hzr:=HPR.out.Bw
   obtain ⟨q1,d1,e1,hv⟩:=(HFO.out.below HPR.out.below).view
   obtain ⟨fb,foff,kv,rfl,hfb,⟨a0,a1,a2,a3,a4,a5,a6,a7,a8⟩,hkv⟩:=hv i f hf
   simp only [Value.slice.injEq] at e1
   obtain ⟨rfl, -, -⟩:=e1
   have hcf:Cells wr fb (foff+i*9) (fcell f kv):=fun j u hu=>by
    match j,hu with
    |0,hu=>cases hu;exact a0
    |1,hu=>cases hu;exact a1
    |2,hu=>cases hu;exact a2
    |3,hu=>cases hu;exact a3
    |4,hu=>cases hu;exact a4
    |5,hu=>cases hu;exact a5
    |6,hu=>cases hu;exact a6
    |7,hu=>cases hu;exact a7
    |8,hu=>cases hu;exact a8
    |j+9,hu=>simp [fcell] at hu
   have le:=wload_value (at5_cells (xat.below hBwr hbB))
   have hi0':(0:Int)≤(i:Int):=by omega
   have hi1':(i:Int)<(m:Int):=by omega
   obtain ⟨Wa,hWa⟩:∃ Wa,wr.alloc (.cells #[.int .i64 0,.int .u64 0,.string ⟨#[]⟩,.slice none 0 0,.int .i64 0] 26)=Wa:=⟨_,rfl⟩
   obtain ⟨xa,hza,hba⟩:=one_box (cs:=zeroT.cells (.slice none 0 0)) hWa
   have hsta:=wstore_value (t:=x) (a:=xq) (n:=x.list.length) (c:=xd) (xa.part (o:=0) (n:=5) (Nat.le_refl _))
   have xb:=xa.all (vs:=x.cells (.slice xq x.list.length xd)) rfl
   have hbb:Below wr.heap.size wr (Wa.setCells wr.heap.size 0 (x.cells (.slice xq x.list.length xd))):=hba.trans (setCells_below' (Nat.le_refl _) _ _)
   have hzb:(Wa.setCells wr.heap.size 0 (x.cells (.slice xq x.list.length xd))).heap.size=wr.heap.size+1:=by rw [setCells_sz];exact hza
   obtain ⟨Wb,hWb⟩:∃ Wb,Wa.setCells wr.heap.size 0 (x.cells (.slice xq x.list.length xd))=Wb:=⟨_,rfl⟩
   rw [hWb] at hsta xb hbb hzb
   have hnx:nodes x≤nodesL l:=nodesL_mem (List.mem_of_getElem? hx)
   have hlit:=field_lit HFS.out (List.mem_of_getElem? hf)
   have HFI:=Lib.hid hf
   have HXI:=Lib.hid hx
   have HXF:=Lib.hid xf
   have HBB:=Lib.hid hbb
   have HXL:Hid (LAt B Wb N (.slice xq x.list.length xd) x.list):=(xl.below hBwr).below (hbb.mono (by have:=HB2.out.size;omega))
   have HEb:=Lib.hid ((HE2.out.below HPR.out.below).below hbb)
   have HBXb:=Lib.hid xb
   have hmx:items.length+1≤maxLen:=by unfold maxLen;omega
   have hmb:(items.length+1)*64≤140737488355328:=by omega
   have HLFb:Hid (∀ v,Below Wb.heap.size Wb v→(Instr.loadAt 50 (.pointer (some ⟨fb,foff+i*9,none⟩))).run Tryd.prog v= .ok (fagg f (kv)) v∧(Instr.loadAt 26 (.pointer (some ⟨fb,foff+i*9+4,none⟩))).run Tryd.prog v= .ok (.agg #[.int .i64 f.dk,.int .u64 f.dn,.string ⟨f.dt.toArray⟩,.slice none 0 0,.int .i64 0]) v):=fun v h=>by
    have hc:Cells v fb (foff+i*9) (fcell f kv):=fun j u hu=>(h.cell (p:=⟨fb,_,none⟩) (by show fb<Wb.heap.size;omega)).trans ((hbb.cell (p:=⟨fb,_,none⟩) hfb).trans (hcf j u hu))
    exact ⟨pload_field hc,wload_value (t:=f.dflt) (lv:= .slice none 0 0) fun j u hu=>by
     have:=hc (4+j) u (by
      match j,hu with
      |0,hu=>exact hu
      |1,hu=>exact hu
      |2,hu=>exact hu
      |3,hu=>exact hu
      |4,hu=>exact hu
      |j+5,hu=>simp [VT.cells] at hu)
     rwa [←Nat.add_assoc] at this⟩
   have HLXb:Hid (∀ v,Below Wb.heap.size Wb v→(Instr.loadAt 26 (.pointer (some ⟨wr.heap.size,0,none⟩))).run Tryd.prog v= .ok (x.agg (.slice xq x.list.length xd)) v∧(Instr.loadAt 3 (.pointer (some ⟨wr.heap.size,0,none⟩))).run Tryd.prog v= .ok (.int .i64 x.kind) v):=fun v h=>by
    have:=HBXb.out.below h (by omega)
    exact ⟨wload_value this.1,pload_int (this.cell (j:=0) rfl)⟩
   obtain ⟨sp,sc,rfl⟩:=HPR.out.form
   rw [hitl] at HPR hmx hmb ⊢
   have HITL:=Lib.hid hitl
   clear hitl
   clear hel hx hf xat xl xf hv hkv a0 a1 a2 a3 a4 a5 a6 a7 a8 hcf xa hba xb hbb hWb hBwr
   go_wp2
   clear hWa hsta le
   by_cases hk:x.kind=0
   ·have HIP:Hid (itemP (readF n) f x=zeroT):=if_pos (.inl hk)
    have HLZ:Hid (∀ v,Below Wb.heap.size Wb v→(Instr.loadAt 3 (.pointer (some ⟨wr.heap.size,0,none⟩))).run Tryd.prog v= .ok (.int .i64 0) v):=fun v h=>by rw [←hk];exact (HLXb.out v h).2
    have hld1:∀ q,(Instr.loadAt 3 (.pointer (some ⟨wr.heap.size,0,none⟩))).run Tryd.prog (Wb.drewN q)= .ok (.int .i64 0) (Wb.drewN q):=fun q=>HLZ.out _ (fbelow_drewN (Below.refl _ _) q)
    clear hk
    go_quiet (fail)
    obtain ⟨V,hV⟩:∃ V,Wb.drewN nq=V:=⟨_,rfl⟩
    have HPV:Hid (PRel w2.heap.size 26 w2 items (.slice sp i sc) V):=by rw [←hV];exact HPR.out.keep (fbelow_drewN HBB.out nq)
    rw [hV]
    clear hV
    have zc:Below V.heap.size V (V.alloc (.cells #[.int .i64 0,.int .u64 0,.string ⟨#[]⟩,.slice none 0 0,.int .i64 0] 26)):=(Below.refl _ _).alloc (Nat.le_refl _) _
    have hPA:=HPV.out.keep zc
    have HPA:=Lib.hid hPA
    have hrow:=hPA.row;rw [HITL.out] at hrow
    have hBV:=hPA.Bw
    clear zc hPA
    go_wp2_with (at_builtin;go_must (refine wpList_append_own_at _ rfl _ _ 24 rfl w2.heap.size 26 i0 _ 5 64 Tryd.underlying24 hi0 hi1 hi2 hi3 rfl (by decide) (.slice sp i sc) i (cellsL (itemsX items)) rfl hrow ⟨V.heap.size,0,none⟩ 1 1 (zeroT.cells (.slice none 0 0)) rfl rfl (vt_new V zeroT (.slice none 0 0) _) (vt_one _ _ _ _) hmx hmb hBV ?_;intro v' w6 hown6 hgrow6 hnil6 hat6))
    rw [←HITL.out] at hown6
    have HP6:Hid (PRel w2.heap.size 26 w2 (items++[(zeroT,.slice none 0 0,[.slice none 0 0])]) v' w6):=HPA.out.push (x:=(zeroT,.slice none 0 0,[.slice none 0 0])) (lo:=V.heap.size) zeroT_fine (OL.nil _ _) (Blk.none _ _) (ApartV.one _) (fun u hu b hb=>(HPV.out.blk u hu b hb).2) (fun b hb=>(HPV.out.rowBlk hb).2) HPV.out.Bw hown6 hgrow6 hat6
    have HT6:Hid (itemsT (items++[((zeroT,.slice none 0 0,[.slice none 0 0]):PItem)])=(List.zipWith (itemP (readF n)) fs l).take (i+1)):=by
     show itemsT _=_
     rw [zipT_take HFI.out HXI.out,HIP.out,←HT.out];simp [itemsT]
    clear hown6 hgrow6 hnil6 hat6 hrow hBV
    go_roundw
    case rel=>exact ⟨i+1,_,by go_num,by omega,HT6.out,HP6.out⟩
    case measure=>simp [intOf];omega
   ·have hkk:(x.kind==0)=false:=by simp [hk]
    have HEQ:Hid (∀ v,Below Wb.heap.size Wb v→Calls Tryd.prog 41 #[x.agg (.slice xq x.list.length xd),.agg #[.int .i64 f.dk,.int .u64 f.dn,.string ⟨f.dt.toArray⟩,.slice none 0 0,.int .i64 0]] v fun r w'=>r= .returned (.bool (eqT x f.dflt))∧Below v.heap.size v w'):=fun v h=>
     (pequal_any (N:=N+1) (B:=B) (t:=x) (t':=f.dflt) ⟨HXF.out,_,rfl,(HXL.out.below (h.mono (by have:=HB2.out.size;omega))).mono (by omega)⟩ (let ⟨a,lv,e,hl⟩:=lit_vat f v hlit;⟨a,lv,e,(hl.up (Nat.zero_le _)).mono (by omega)⟩) (by have:=HB2.out.size;have:=h.size;omega)).mono fun r w' ⟨h1,h2⟩=>⟨h1,h2.below⟩
    obtain ⟨Z,hZ⟩:∃ Z,eqT x f.dflt=Z:=⟨_,rfl⟩
    rw [hZ] at HEQ
    have HZZ:=Lib.hid hZ
    clear hZ
    go_region_held3 (fun v=>(Instr.loadAt 26 (.pointer (some ⟨fb,foff+i*9+4,none⟩))).run Tryd.prog v= .ok (.agg #[.int .i64 f.dk,.int .u64 f.dn,.string ⟨f.dt.toArray⟩,.slice none 0 0,.int .i64 0]) v∧(Instr.loadAt 26 (.pointer (some ⟨wr.heap.size,0,none⟩))).run Tryd.prog v= .ok (x.agg (.slice xq x.list.length xd)) v∧(Instr.loadAt 3 (.pointer (some ⟨wr.heap.size,0,none⟩))).run Tryd.prog v= .ok (.int .i64 x.kind) v)
     (first
       |with_reducible exact ⟨(HLFb.out _ ((Below.refl _ _).drew.trans hb5)).2,HLXb.out _ ((Below.refl _ _).drew.trans hb5)⟩
       |with_reducible exact ⟨(HLFb.out _ (Below.refl _ _).drew).2,HLXb.out _ (Below.refl _ _).drew⟩
       |with_reducible exact ⟨(HLFb.out _ (Below.refl _ _)).2,HLXb.out _ (Below.refl _ _)⟩)
     ((go_at_call 41;refine (HEQ.out _ (Below.refl _ _).drew).mono ?_;rintro r V ⟨rfl,hb5'⟩;have hb5:Below Wb.heap.size Wb.drew V:=hb5';clear hb5'))
    have HWV:=Lib.hid ((Below.refl Wb.heap.size Wb).drew.trans hb5)
    clear hb5
    cases Z with
    |true=>
     have HIP:Hid (itemP (readF n) f x=zeroT):=if_pos (.inr HZZ.out)
     have HPV:Hid (PRel w2.heap.size 26 w2 items (.slice sp i sc) V):=(HPR.out.keep HBB.out).keep HWV.out
     have zc:Below V.heap.size V (V.alloc (.cells #[.int .i64 0,.int .u64 0,.string ⟨#[]⟩,.slice none 0 0,.int .i64 0] 26)):=(Below.refl _ _).alloc (Nat.le_refl _) _
     have hPA:=HPV.out.keep zc
     have HPA:=Lib.hid hPA
     have hrow:=hPA.row;rw [HITL.out] at hrow
     have hBV:=hPA.Bw
     clear zc hPA
     go_wp2_with (at_builtin;go_must (refine wpList_append_own_at _ rfl _ _ 24 rfl w2.heap.size 26 i0 _ 5 64 Tryd.underlying24 hi0 hi1 hi2 hi3 rfl (by decide) (.slice sp i sc) i (cellsL (itemsX items)) rfl hrow ⟨V.heap.size,0,none⟩ 1 1 (zeroT.cells (.slice none 0 0)) rfl rfl (vt_new V zeroT (.slice none 0 0) _) (vt_one _ _ _ _) hmx hmb hBV ?_;intro v' w6 hown6 hgrow6 hnil6 hat6))
     rw [←HITL.out] at hown6
     have HP6:Hid (PRel w2.heap.size 26 w2 (items++[(zeroT,.slice none 0 0,[.slice none 0 0])]) v' w6):=HPA.out.push (x:=(zeroT,.slice none 0 0,[.slice none 0 0])) (lo:=V.heap.size) zeroT_fine (OL.nil _ _) (Blk.none _ _) (ApartV.one _) (fun u hu b hb=>(HPV.out.blk u hu b hb).2) (fun b hb=>(HPV.out.rowBlk hb).2) HPV.out.Bw hown6 hgrow6 hat6
     have HT6:Hid (itemsT (items++[((zeroT,.slice none 0 0,[.slice none 0 0]):PItem)])=(List.zipWith (itemP (readF n)) fs l).take (i+1)):=by
      show itemsT _=_
      rw [zipT_take HFI.out HXI.out,HIP.out,←HT.out];simp [itemsT]
     clear hown6 hgrow6 hnil6 hat6 hrow hBV
     go_roundw
     case rel=>exact ⟨i+1,_,by go_num,by omega,HT6.out,HP6.out⟩
     case measure=>simp [intOf];omega
    |false=>
     have HIP:Hid (itemP (readF n) f x=okV (readF n f x)):=if_neg (by rintro (h|h);exact hk h;rw [HZZ.out] at h;cases h)
     have hwt:wantedT f x=true:=(HRD.out i f x HFI.out HXI.out).elim (fun h=>absurd h hk) (fun h=>h.elim (fun h=>by rw [HZZ.out] at h;cases h) id)
     have HBV:Hid (Below wr.heap.size wr V):=HBB.out.trans (HWV.out.mono (by omega))
     have hzv:=HBV.out.size
     have hzv2:=HWV.out.size
     have HLF:Hid (∀ v,Below V.heap.size V v→(Instr.loadAt 50 (.pointer (some ⟨fb,foff+i*9,none⟩))).run Tryd.prog v= .ok (fagg f (kv)) v):=fun v h=>(HLFb.out v (HWV.out.trans (h.mono hzv2))).1
     have HLX:Hid (∀ v,Below V.heap.size V v→(Instr.loadAt 26 (.pointer (some ⟨wr.heap.size,0,none⟩))).run Tryd.prog v= .ok (x.agg (.slice xq x.list.length xd)) v):=fun v h=>(HLXb.out v (HWV.out.trans (h.mono hzv2))).1
     have HBX:Hid (∀ v,Below V.heap.size V v→Box v wr.heap.size (x.cells (.slice xq x.list.length xd))):=fun v h=>HBXb.out.below (HWV.out.trans (h.mono hzv2)) (by omega)
     have HXV:Hid (∀ v,Below V.heap.size V v→Env v∧LAt B v N (.slice xq x.list.length xd) x.list∧B≤v.heap.size):=fun v h=>
      ⟨HEb.out.below (HWV.out.trans (h.mono hzv2)),HXL.out.below ((HWV.out.trans (h.mono hzv2)).mono (by have:=HB2.out.size;omega)),by have:=HB2.out.size;have:=h.size;omega⟩
     have hndx:(nodes x+13)*2^n≤800000000:=Nat.le_trans (Nat.mul_le_mul_right _ (Nat.add_le_add_right hnx 13)) HND.out
     clear HLFb HLXb HEQ HEb hlit
     by_cases h102:f.type=102
     ·have HFN:Hid (rdFn f= .func (.func 60) #[] #[]):=if_pos h102
      have HRDC:Hid (∀ v,Below V.heap.size V v→Calls Tryd.prog 60 #[x.agg (.slice xq x.list.length xd)] v fun r w'=>ReadAns (readF n f x) v r w'):=fun v h=>
       HRC.out B N f x _ v (HXV.out v h).1 HXF.out (HXV.out v h).2.1 (HXV.out v h).2.2 h102 (Nat.lt_of_lt_of_le (wanted_rk HFS.out (List.mem_of_getElem? HFI.out) h102 hwt) hrk) hndx
      clear h102 hwt hndx
      go_wp2
      have hld1:=HLF.out V.drew (Below.refl _ _).drew
      have hld2:=HLX.out V.drew (Below.refl _ _).drew
      go_region_with
       ((first
         |(go_at_call 40
           refine (readerOf_any f kv _).mono ?_
           rintro r w5 ⟨rfl,hb5'⟩
           have hb5:Below V.heap.size V.drew w5:=hb5'
           clear hb5'
           have hld3:=HLF.out w5 ((Below.refl _ _).drew.trans hb5)
           have hld4:=HLX.out w5 ((Below.refl _ _).drew.trans hb5)
           rw [HFN.out])
         |(go_at_call 60
           go_must (
            refine (HRDC.out w5 ((Below.refl _ _).drew.trans hb5)).mono ?_
            rintro r w6 hans
            obtain ⟨hb6,q6,d6,us,e6,rfl,yf,yo,yk,ya⟩:=hans.get
            have x6:=HBX.out w6 (((Below.refl _ _).drew.trans hb5).trans (hb6.mono hb5.size))
            have hst6:=wstore_value (t:=okV (readF n f x)) (a:=q6) (n:=(okV (readF n f x)).list.length) (c:=d6) (x6.part (o:=0) (n:=5) (Nat.le_refl _))
            have y6:=x6.all (vs:=(okV (readF n f x)).cells (.slice q6 (okV (readF n f x)).list.length d6)) rfl
            have bk6:Below wr.heap.size V (w6.setCells wr.heap.size 0 ((okV (readF n f x)).cells (.slice q6 (okV (readF n f x)).list.length d6))):=((((Below.refl _ _).drew.trans hb5).trans (hb6.mono hb5.size)).mono (by omega)).trans (setCells_below' (Nat.le_refl _) _ _)
            have yo6:OL (w6.setCells wr.heap.size 0 ((okV (readF n f x)).cells (.slice q6 (okV (readF n f x)).list.length d6))) LV (.slice q6 (okV (readF n f x)).list.length d6) (okV (readF n f x)).list us:=yo.heap (by rw [setCells_sz];exact Nat.le_refl _) fun u hu b hb=>setCells_other (by have:=yk u hu b hb;have:V.heap.size≤w5.heap.size:=hb5.size;omega) _ _
            have yk6:Blk V.heap.size (w6.setCells wr.heap.size 0 ((okV (readF n f x)).cells (.slice q6 (okV (readF n f x)).list.length d6))).heap.size us:=by rw [setCells_sz];exact yk.mono hb5.size (Nat.le_refl _)
            obtain ⟨X6,hX6⟩:∃ X6,w6.setCells wr.heap.size 0 ((okV (readF n f x)).cells (.slice q6 (okV (readF n f x)).list.length d6))=X6:=⟨_,rfl⟩
            rw [hX6] at hst6 y6 bk6 yo6 yk6
            have ld6:=wload_value y6.1
            have HY6:Hid ((okV (readF n f x)).Fine∧OL X6 LV (.slice q6 (okV (readF n f x)).list.length d6) (okV (readF n f x)).list us∧Blk V.heap.size X6.heap.size us∧ApartV us∧Below wr.heap.size V X6):=⟨yf,yo6,yk6,ya,bk6⟩
            clear hX6 yo yk ya yf yo6 yk6 bk6 x6 y6 hans))))
      all_goals
       have hPX:=HPR.out.keep ((HBV.out.trans HY6.out.2.2.2.2).mono (Nat.le_refl _))
       have zc:Below X6.heap.size X6 (X6.alloc (.cells #[.int .i64 (okV (readF n f x)).kind,.int .u64 (okV (readF n f x)).num,.string (okV (readF n f x)).text,.slice q6 (okV (readF n f x)).list.length d6,.int .i64 (okV (readF n f x)).elem] 26)):=(Below.refl _ _).alloc (Nat.le_refl _) _
       have HPA:=Lib.hid (hPX.keep zc)
       have hrow:=(hPX.keep zc).row;rw [HITL.out] at hrow
       have hBV:=(hPX.keep zc).Bw
       have HPX:=Lib.hid hPX
       have HZ:=Lib.hid zc
       clear zc hPX
       go_wp2_with (at_builtin;go_must (refine wpList_append_own_at _ rfl _ _ 24 rfl w2.heap.size 26 i0 _ 5 64 Tryd.underlying24 hi0 hi1 hi2 hi3 rfl (by decide) (.slice sp i sc) i (cellsL (itemsX items)) rfl hrow ⟨X6.heap.size,0,none⟩ 1 1 ((okV (readF n f x)).cells (.slice q6 (okV (readF n f x)).list.length d6)) rfl rfl (vt_new X6 _ _ _) (vt_one _ _ _ _) hmx hmb hBV ?_;intro v' w7 hown7 hgrow7 hnil7 hat7))
       rw [←HITL.out] at hown7
       have HP7:Hid (PRel w2.heap.size 26 w2 (items++[(okV (readF n f x),.slice q6 (okV (readF n f x)).list.length d6,us)]) v' w7):=HPA.out.push (x:=(okV (readF n f x),.slice q6 (okV (readF n f x)).list.length d6,us)) (lo:=V.heap.size) HY6.out.1 (HY6.out.2.1.below HZ.out) (HY6.out.2.2.1.mono (Nat.le_refl _) HZ.out.size) HY6.out.2.2.2.1 (fun u hu b hb=>by have:=(HPR.out.blk u hu b hb).2;have:=HBV.out.size;omega) (fun b hb=>by have:=(HPR.out.rowBlk hb).2;have:=HBV.out.size;omega) (by have:=HPR.out.Bw;have:=HBV.out.size;omega) hown7 hgrow7 hat7
       have HT7:Hid (itemsT (items++[((okV (readF n f x),.slice q6 (okV (readF n f x)).list.length d6,us):PItem)])=(List.zipWith (itemP (readF n)) fs l).take (i+1)):=by
        show itemsT _=_
        rw [zipT_take HFI.out HXI.out,HIP.out,←HT.out];simp [itemsT]
       clear hown7 hgrow7 hnil7 hat7 hrow hBV
       go_roundw
       case rel=>exact ⟨i+1,_,by go_num,by omega,HT7.out,HP7.out⟩
       case measure=>simp [intOf];omega
     ·have HFN:Hid (rdFn f= .func (.func 61) #[] #[]):=if_neg h102
      have HRDC:Hid (∀ v,Below V.heap.size V v→Calls Tryd.prog 61 #[x.agg (.slice xq x.list.length xd)] v fun r w'=>ReadAns (readF n f x) v r w'):=fun v h=>by
       rw [readF_plain n f x h102]
       exact reader2_any (N:=N) (B:=B) x _ v HXF.out (HXV.out v h).2.1 (HXV.out v h).2.2 (by omega)
      clear h102 hwt hndx
      go_wp2
      have hld1:=HLF.out V.drew (Below.refl _ _).drew
      have hld2:=HLX.out V.drew (Below.refl _ _).drew
      go_region_with
       ((first
         |(go_at_call 40
           refine (readerOf_any f kv _).mono ?_
           rintro r w5 ⟨rfl,hb5'⟩
           have hb5:Below V.heap.size V.drew w5:=hb5'
           clear hb5'
           have hld3:=HLF.out w5 ((Below.refl _ _).drew.trans hb5)
           have hld4:=HLX.out w5 ((Below.refl _ _).drew.trans hb5)
           rw [HFN.out])
         |(go_at_call 61
           go_must (
            refine (HRDC.out w5 ((Below.refl _ _).drew.trans hb5)).mono ?_
            rintro r w6 hans
            obtain ⟨hb6,q6,d6,us,e6,rfl,yf,yo,yk,ya⟩:=hans.get
            have x6:=HBX.out w6 (((Below.refl _ _).drew.trans hb5).trans (hb6.mono hb5.size))
            have hst6:=wstore_value (t:=okV (readF n f x)) (a:=q6) (n:=(okV (readF n f x)).list.length) (c:=d6) (x6.part (o:=0) (n:=5) (Nat.le_refl _))
            have y6:=x6.all (vs:=(okV (readF n f x)).cells (.slice q6 (okV (readF n f x)).list.length d6)) rfl
            have bk6:Below wr.heap.size V (w6.setCells wr.heap.size 0 ((okV (readF n f x)).cells (.slice q6 (okV (readF n f x)).list.length d6))):=((((Below.refl _ _).drew.trans hb5).trans (hb6.mono hb5.size)).mono (by omega)).trans (setCells_below' (Nat.le_refl _) _ _)
            have yo6:OL (w6.setCells wr.heap.size 0 ((okV (readF n f x)).cells (.slice q6 (okV (readF n f x)).list.length d6))) LV (.slice q6 (okV (readF n f x)).list.length d6) (okV (readF n f x)).list us:=yo.heap (by rw [setCells_sz];exact Nat.le_refl _) fun u hu b hb=>setCells_other (by have:=yk u hu b hb;have:V.heap.size≤w5.heap.size:=hb5.size;omega) _ _
            have yk6:Blk V.heap.size (w6.setCells wr.heap.size 0 ((okV (readF n f x)).cells (.slice q6 (okV (readF n f x)).list.length d6))).heap.size us:=by rw [setCells_sz];exact yk.mono hb5.size (Nat.le_refl _)
            obtain ⟨X6,hX6⟩:∃ X6,w6.setCells wr.heap.size 0 ((okV (readF n f x)).cells (.slice q6 (okV (readF n f x)).list.length d6))=X6:=⟨_,rfl⟩
            rw [hX6] at hst6 y6 bk6 yo6 yk6
            have ld6:=wload_value y6.1
            have HY6:Hid ((okV (readF n f x)).Fine∧OL X6 LV (.slice q6 (okV (readF n f x)).list.length d6) (okV (readF n f x)).list us∧Blk V.heap.size X6.heap.size us∧ApartV us∧Below wr.heap.size V X6):=⟨yf,yo6,yk6,ya,bk6⟩
            clear hX6 yo yk ya yf yo6 yk6 bk6 x6 y6 hans))))
      all_goals
       have hPX:=HPR.out.keep ((HBV.out.trans HY6.out.2.2.2.2).mono (Nat.le_refl _))
       have zc:Below X6.heap.size X6 (X6.alloc (.cells #[.int .i64 (okV (readF n f x)).kind,.int .u64 (okV (readF n f x)).num,.string (okV (readF n f x)).text,.slice q6 (okV (readF n f x)).list.length d6,.int .i64 (okV (readF n f x)).elem] 26)):=(Below.refl _ _).alloc (Nat.le_refl _) _
       have HPA:=Lib.hid (hPX.keep zc)
       have hrow:=(hPX.keep zc).row;rw [HITL.out] at hrow
       have hBV:=(hPX.keep zc).Bw
       have HPX:=Lib.hid hPX
       have HZ:=Lib.hid zc
       clear zc hPX
       go_wp2_with (at_builtin;go_must (refine wpList_append_own_at _ rfl _ _ 24 rfl w2.heap.size 26 i0 _ 5 64 Tryd.underlying24 hi0 hi1 hi2 hi3 rfl (by decide) (.slice sp i sc) i (cellsL (itemsX items)) rfl hrow ⟨X6.heap.size,0,none⟩ 1 1 ((okV (readF n f x)).cells (.slice q6 (okV (readF n f x)).list.length d6)) rfl rfl (vt_new X6 _ _ _) (vt_one _ _ _ _) hmx hmb hBV ?_;intro v' w7 hown7 hgrow7 hnil7 hat7))
       rw [←HITL.out] at hown7
       have HP7:Hid (PRel w2.heap.size 26 w2 (items++[(okV (readF n f x),.slice q6 (okV (readF n f x)).list.length d6,us)]) v' w7):=HPA.out.push (x:=(okV (readF n f x),.slice q6 (okV (readF n f x)).list.length d6,us)) (lo:=V.heap.size) HY6.out.1 (HY6.out.2.1.below HZ.out) (HY6.out.2.2.1.mono (Nat.le_refl _) HZ.out.size) HY6.out.2.2.2.1 (fun u hu b hb=>by have:=(HPR.out.blk u hu b hb).2;have:=HBV.out.size;omega) (fun b hb=>by have:=(HPR.out.rowBlk hb).2;have:=HBV.out.size;omega) (by have:=HPR.out.Bw;have:=HBV.out.size;omega) hown7 hgrow7 hat7
       have HT7:Hid (itemsT (items++[((okV (readF n f x),.slice q6 (okV (readF n f x)).list.length d6,us):PItem)])=(List.zipWith (itemP (readF n)) fs l).take (i+1)):=by
        show itemsT _=_
        rw [zipT_take HFI.out HXI.out,HIP.out,←HT.out];simp [itemsT]
       clear hown7 hgrow7 hnil7 hat7 hrow hBV
       go_roundw
       case rel=>exact ⟨i+1,_,by go_num,by omega,HT7.out,HP7.out⟩
       case measure=>simp [intOf];omega
  ·obtain rfl:i=m:=by omega
   have HT':Hid (itemsT items=List.zipWith (itemP (readF n)) fs l):=by
    have h1:=Hm.out;have h2:=Hfm.out
    exact HT.out.trans (List.take_of_length_le (by rw [List.length_zipWith];omega))
   have hil:items.length=i:=by
    have:=congrArg List.length HT'.out
    simp only [itemsT,List.length_map,List.length_zipWith] at this
    have h1:=Hm.out;have h2:=Hfm.out
    omega
   obtain ⟨sp0,sc0,rfl⟩:=HPR.out.form
   rw [hil] at HPR ⊢
   have HPQ:Hid (PRel w2.heap.size 26 w2 (items.take i) (.slice sp0 i sc0) wr):=by rw [←hil,List.take_length,hil];exact HPR.out
   have HKZ:Hid (∀ (j:Nat) (x:PItem),i≤j→items[j]? =some x→x.1.kind=0):=fun j x hj hx=>by have:=(List.getElem?_eq_some_iff.1 hx).1;omega
   have HIL:=Lib.hid hil
   clear HT hi HPR hlt hil
   go_wp2
   have hnT:Hid (nodesL (trimT (List.zipWith (itemP (readF n)) fs l))≤100000000000):=by
    show _≤_
    have h1:=pack_nodes (mildF n) k l
    have h2:=nodes_packV k (trimT (List.zipWith (itemP (readF n)) fs l))
    have h3:packG (readF n) k l=packV k (trimT (List.zipWith (itemP (readF n)) fs l)):=by unfold packG;rw [HFS.out];rfl
    rw [h3,h2] at h1
    omega
   go_loopw [5] (fun sv wq=>∃ (q:Nat) (sp:Option Addr) (sc:Nat),sv= .slice sp q sc∧q≤i∧Hid (∀ (j:Nat) (x:PItem),q≤j→items[j]? =some x→x.1.kind=0)∧Hid (PRel w2.heap.size 26 w2 (items.take q) sv wq)) (fun sv _=>match sv with| .slice _ q _=>q|_=>0)
   case atStart=>exact ⟨i,sp0,sc0,rfl,Nat.le_refl _,HKZ.out,HPQ.out⟩
   case round=>
    obtain ⟨q,spq,scq,rfl,hq,HKQ,HPQ'⟩:=hrel
    have hqm:q≤maxLen:=by unfold maxLen;omega
    by_cases hq0:q=0
    ·subst hq0
     have HEX:Hid (0=0∨∃ x,(itemsT items)[0-1]? =some x∧x.kind≠0):= .inl rfl
     have HLQ:Hid ((items.take 0).length=0):=by show _=0;rw [List.length_take];have:=HIL.out;omega
     have HTR:Hid (itemsT (items.take 0)=trimT (List.zipWith (itemP (readF n)) fs l)):=by
      show _=_
      rw [←HT'.out,trim_at (itemsT items) 0 (by show 0≤(itemsT items).length;unfold itemsT;rw [List.length_map];have:=HIL.out;omega) (fun j x hj hx=>by
       unfold itemsT at hx;rw [List.getElem?_map] at hx
       obtain ⟨y,hy,rfl⟩:=Option.map_eq_some_iff.1 hx
       exact HKQ.out j y hj hy) HEX.out,itemsT,itemsT,List.map_take]
     have HX1:Hid (Box wr w.heap.size [.int .i64 k,.slice p i c]):=X1b.out.below HPQ'.out.below (by omega)
     have HLK:Hid (∀ v,Below wr.heap.size wr v→(Instr.loadAt 3 (.pointer (some ⟨w.heap.size,0,none⟩))).run Tryd.prog v= .ok (.int .i64 k) v):=fun v h=>pload_int ((HX1.out.below h (by have:=HPQ'.out.Bw;omega)).cell (j:=0) rfl)
     have HBX2:Hid (∀ v,Below wr.heap.size wr v→Box v (w.heap.size+1) (zeroT.cells (.slice none 0 0))):=fun v h=>(X2b.out.below HPQ'.out.below (by omega)).below h (by have:=HPQ'.out.Bw;omega)
     have HCL:Hid (∀ v,Below wr.heap.size wr v→Calls Tryd.prog 42 #[.slice spq 0 scq] v fun e w'=>∃ v',e= .returned v'∧w'.ownsRow v.heap.size 26 5 v' (items.take 0).length (cellsL (itemsX (items.take 0)))∧Below v.heap.size v w'):=fun v h=>by
      have hv:=(HPQ'.out.keep h).view
      have hl:=cloneX_any (c:=scq) v hv.2 (by rw [itemsX_len,HLQ.out];have:=HIL.out;omega)
      rw [itemsX_len,HLQ.out] at hl
      rw [HLQ.out]
      exact hl
     go_wp2
     have hld1:=HLK.out wr.drew (Below.refl _ _).drew
     have hcv:IntKind.u64.wrap k=k:=by rw [IntKind.wrap_u64];omega
     go_region_with
      ((go_at_call 42
        go_must (
        refine (HCL.out wr.drew (Below.refl _ _).drew).mono ?_
        rintro r w5 ⟨v5,rfl,hrow5,hb5'⟩
        have hb5:Below wr.heap.size wr w5:=(Below.refl _ _).drew.trans hb5'
        clear hb5'
        have hrow5:w5.ownsRow wr.heap.size 26 5 v5 (items.take 0).length (cellsL (itemsX (items.take 0))):=hrow5
        have hld2:=HLK.out w5 hb5
        obtain ⟨p5,c5,e5⟩:=sliceRow hrow5
        rw [HLQ.out] at e5
        subst e5
        have hz5:=hb5.size
        have zb:Below wr.heap.size wr (w5.alloc (.cells #[.int .i64 5,.int .u64 k,.string ⟨#[]⟩,.slice none 0 0,.int .i64 0,.int .i64 21,.int .u64 0,.string ⟨#[]⟩,.slice p5 0 c5,.int .i64 0] 26)):=hb5.trans ((Below.refl _ _).alloc hz5 _)
        have x6:=HBX2.out _ zb
        have hst6:=wstore_value (t:=packV k []) (a:=some ⟨w5.heap.size,0,none⟩) (n:=2) (c:=2) (x6.part (o:=0) (n:=5) (Nat.le_refl _))
        have y6:=x6.all (vs:=(packV k []).cells (.slice (some ⟨w5.heap.size,0,none⟩) 2 2)) rfl
        obtain ⟨X6,hX6⟩:∃ X6,(w5.alloc (.cells #[.int .i64 5,.int .u64 k,.string ⟨#[]⟩,.slice none 0 0,.int .i64 0,.int .i64 21,.int .u64 0,.string ⟨#[]⟩,.slice p5 0 c5,.int .i64 0] 26)).setCells (w.heap.size+1) 0 ((packV k []).cells (.slice (some ⟨w5.heap.size,0,none⟩) 2 2))=X6:=⟨_,rfl⟩
        have hend:=pack_end HPQ'.out hb5 hrow5 (by rw [HLQ.out];have:=HIL.out;omega) hkb (by rw [HTR.out];exact hnT.out) (by omega) rfl hX6
        have hbel:Below w.heap.size w X6:=by
         rw [←hX6]
         exact ((HB2.out.trans (HPQ'.out.below.mono (by omega))).trans (zb.mono (by have:=HPQ'.out.Bw;omega))).trans (setCells_below' (by omega) _ _)
        rw [hX6] at hst6 y6
        have HLV:=Lib.hid (ploadVar_value y6.1)
        have HEND:=Lib.hid hend
        have HBEL:=Lib.hid hbel
        replace hst6:(Instr.storeAt 26 (.pointer (some ⟨w.heap.size+1,0,none⟩)) (.agg #[.int .i64 24,.int .u64 0,.string ⟨#[]⟩,.slice (some ⟨w5.heap.size,0,none⟩) 2 2,.int .i64 0])).run Tryd.prog (w5.alloc (.cells #[.int .i64 5,.int .u64 k,.string ⟨#[]⟩,.slice none 0 0,.int .i64 0,.int .i64 21,.int .u64 0,.string ⟨#[]⟩,.slice p5 0 c5,.int .i64 0] 26))= .ok () X6:=hst6
        clear hrow5 hb5 zb x6 y6 hend hbel hX6)))
     all_goals
      obtain ⟨us,ho,hbk,hap⟩:=HEND.out
      go_wp2
      exact bodyPost_ret_by (resultsMid rfl rfl HLV.out) rfl ⟨_,us,by rw [HR.out];rfl,by rw [HR.out,←HTR.out];exact ho,hbk.mono (by omega) (Nat.le_refl _),hap,HBEL.out⟩
    ·obtain ⟨q,rfl⟩:∃ q',q=q'+1:=⟨q-1,by omega⟩
     obtain ⟨x,hx⟩:∃ x,items[q]? =some x:=⟨_,List.getElem?_eq_getElem (by have:=HIL.out;omega)⟩
     have hxq:(items.take (q+1))[q]? =some x:=by rw [List.getElem?_take_of_lt (by omega)];exact hx
     obtain ⟨g,cc,e,ha⟩:=HPQ'.out.at hxq
     simp only [Value.slice.injEq] at e
     obtain ⟨rfl, -, -⟩:=e
     have hq1:(0:Int)<((q+1:Nat):Int):=by omega
     have l7:=pload_int ha.kind
     have hqs:IntKind.i64.wrap ((q:Int)+1-1)=(q:Int):=by rw [IntKind.wrap_i64];omega
     have hqs2:((q:Int)+1).toNat=q+1:=by omega
     have hcq:q≤scq:=by have:=HPQ'.out.cap;omega
     clear ha hxq
     by_cases hk0:x.1.kind=0
     ·have HKN:Hid (∀ (j:Nat) (y:PItem),q≤j→items[j]? =some y→y.1.kind=0):=fun j y hj hy=>by
       rcases Nat.lt_or_ge q j with h|h
       ·exact HKQ.out j y h hy
       ·obtain rfl:q=j:=by omega
        rw [hx] at hy;cases hy;exact hk0
      have HPN:Hid (PRel w2.heap.size 26 w2 (items.take q) (.slice (some ⟨g,0,none⟩) q scq) wr):=by
       have:=HPQ'.out.cut (m:=q) (by omega)
       rwa [List.take_take,Nat.min_eq_left (by omega)] at this
      rw [hk0] at l7
      clear hx hk0
      go_wp2
      exact ⟨⟨q,_,_,rfl,by omega,HKN.out,HPN.out⟩,by simp⟩
     ·have HEX:Hid (q+1=0∨∃ x,(itemsT items)[q+1-1]? =some x∧x.kind≠0):= .inr ⟨x.1,by show (itemsT items)[q]? =_;unfold itemsT;rw [List.getElem?_map,hx];rfl,hk0⟩
      have hkk:(x.1.kind==0)=false:=by simp [hk0]
      clear hx
      have HLQ:Hid ((items.take (q+1)).length=(q+1)):=by show _=(q+1);rw [List.length_take];have:=HIL.out;omega
      have HTR:Hid (itemsT (items.take (q+1))=trimT (List.zipWith (itemP (readF n)) fs l)):=by
       show _=_
       rw [←HT'.out,trim_at (itemsT items) (q+1) (by show (q+1)≤(itemsT items).length;unfold itemsT;rw [List.length_map];have:=HIL.out;omega) (fun j x hj hx=>by
        unfold itemsT at hx;rw [List.getElem?_map] at hx
        obtain ⟨y,hy,rfl⟩:=Option.map_eq_some_iff.1 hx
        exact HKQ.out j y hj hy) HEX.out,itemsT,itemsT,List.map_take]
      have HX1:Hid (Box wr w.heap.size [.int .i64 k,.slice p i c]):=X1b.out.below HPQ'.out.below (by omega)
      have HLK:Hid (∀ v,Below wr.heap.size wr v→(Instr.loadAt 3 (.pointer (some ⟨w.heap.size,0,none⟩))).run Tryd.prog v= .ok (.int .i64 k) v):=fun v h=>pload_int ((HX1.out.below h (by have:=HPQ'.out.Bw;omega)).cell (j:=0) rfl)
      have HBX2:Hid (∀ v,Below wr.heap.size wr v→Box v (w.heap.size+1) (zeroT.cells (.slice none 0 0))):=fun v h=>(X2b.out.below HPQ'.out.below (by omega)).below h (by have:=HPQ'.out.Bw;omega)
      have HCL:Hid (∀ v,Below wr.heap.size wr v→Calls Tryd.prog 42 #[.slice (some ⟨g,0,none⟩) (q+1) scq] v fun e w'=>∃ v',e= .returned v'∧w'.ownsRow v.heap.size 26 5 v' (items.take (q+1)).length (cellsL (itemsX (items.take (q+1))))∧Below v.heap.size v w'):=fun v h=>by
       have hv:=(HPQ'.out.keep h).view
       have hl:=cloneX_any (c:=scq) v hv.2 (by rw [itemsX_len,HLQ.out];have:=HIL.out;omega)
       rw [itemsX_len,HLQ.out] at hl
       rw [HLQ.out]
       exact hl
      go_wp2
      have hld1:=HLK.out wr.drew (Below.refl _ _).drew
      have hcv:IntKind.u64.wrap k=k:=by rw [IntKind.wrap_u64];omega
      go_region_with
       ((go_at_call 42
         go_must (
         refine (HCL.out wr.drew (Below.refl _ _).drew).mono ?_
         rintro r w5 ⟨v5,rfl,hrow5,hb5'⟩
         have hb5:Below wr.heap.size wr w5:=(Below.refl _ _).drew.trans hb5'
         clear hb5'
         have hrow5:w5.ownsRow wr.heap.size 26 5 v5 (items.take (q+1)).length (cellsL (itemsX (items.take (q+1)))):=hrow5
         have hld2:=HLK.out w5 hb5
         obtain ⟨p5,c5,e5⟩:=sliceRow hrow5
         rw [HLQ.out] at e5
         subst e5
         have hz5:=hb5.size
         have zb:Below wr.heap.size wr (w5.alloc (.cells #[.int .i64 5,.int .u64 k,.string ⟨#[]⟩,.slice none 0 0,.int .i64 0,.int .i64 21,.int .u64 0,.string ⟨#[]⟩,.slice p5 (q+1) c5,.int .i64 0] 26)):=hb5.trans ((Below.refl _ _).alloc hz5 _)
         have x6:=HBX2.out _ zb
         have hst6:=wstore_value (t:=packV k []) (a:=some ⟨w5.heap.size,0,none⟩) (n:=2) (c:=2) (x6.part (o:=0) (n:=5) (Nat.le_refl _))
         have y6:=x6.all (vs:=(packV k []).cells (.slice (some ⟨w5.heap.size,0,none⟩) 2 2)) rfl
         obtain ⟨X6,hX6⟩:∃ X6,(w5.alloc (.cells #[.int .i64 5,.int .u64 k,.string ⟨#[]⟩,.slice none 0 0,.int .i64 0,.int .i64 21,.int .u64 0,.string ⟨#[]⟩,.slice p5 (q+1) c5,.int .i64 0] 26)).setCells (w.heap.size+1) 0 ((packV k []).cells (.slice (some ⟨w5.heap.size,0,none⟩) 2 2))=X6:=⟨_,rfl⟩
         have hend:=pack_end HPQ'.out hb5 hrow5 (by rw [HLQ.out];have:=HIL.out;omega) hkb (by rw [HTR.out];exact hnT.out) (by omega) rfl hX6
         have hbel:Below w.heap.size w X6:=by
          rw [←hX6]
          exact ((HB2.out.trans (HPQ'.out.below.mono (by omega))).trans (zb.mono (by have:=HPQ'.out.Bw;omega))).trans (setCells_below' (by omega) _ _)
         rw [hX6] at hst6 y6
         have HLV:=Lib.hid (ploadVar_value y6.1)
         have HEND:=Lib.hid hend
         have HBEL:=Lib.hid hbel
         replace hst6:(Instr.storeAt 26 (.pointer (some ⟨w.heap.size+1,0,none⟩)) (.agg #[.int .i64 24,.int .u64 0,.string ⟨#[]⟩,.slice (some ⟨w5.heap.size,0,none⟩) 2 2,.int .i64 0])).run Tryd.prog (w5.alloc (.cells #[.int .i64 5,.int .u64 k,.string ⟨#[]⟩,.slice none 0 0,.int .i64 0,.int .i64 21,.int .u64 0,.string ⟨#[]⟩,.slice p5 (q+1) c5,.int .i64 0] 26))= .ok () X6:=hst6
         clear hrow5 hb5 zb x6 y6 hend hbel hX6)))
      all_goals
       obtain ⟨us,ho,hbk,hap⟩:=HEND.out
       go_wp2
       exact bodyPost_ret_by (resultsMid rfl rfl HLV.out) rfl ⟨_,us,by rw [HR.out];rfl,by rw [HR.out,←HTR.out];exact ho,hbk.mono (by omega) (Nat.le_refl _),hap,HBEL.out⟩
end Go.Proofs.YtfoiaiblggapeaaDoor.Va
