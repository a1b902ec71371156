/-
  Q6: The document's Check and Pack. Conditions: the record lies so.
  L0: GreatAll. No condition but that the values lie so.
  L1: Lent, LentAll: values are laid anew, as their owner lends them. No condition but that they lie so and are not great.
  L2: LentAll: a list of values is laid anew, with marks behind it. No condition but that it lies so and is not great.
  L3: AsLent, AsLentAll: what was lent reads as it did; then it is written over. Conditions: the original lies so, below what was lent.
  V6: live, evaluated; a value as the law's argument. Condition: the table strings.asciiSpace lies as the program's text lays it.
  SL: A record as an argument; what a record's law asks. No condition.
-/
import Derived.Test.YtfoiaiblggapeaaGreatDoorZSCB8
import Derived.Test.YtfoiaiblggapeaaGreatDoorZSCB0
import Derived.Test.YtfoiaiblggapeaaGreatDoorZSCA0
import Derived.Laws.NewBlocks
import Derived.Laws.MakeOwn
import Derived.Deep.RegionHeld3
import Derived.Deep.DrawnRows
import Derived.Test.YtfoiaiblggapeaaGreatDoorZSCB6
import Derived.Test.YtfoiaiblggapeaaGreatDoorZSCA1
namespace Go.Proofs.YtfoiaiblggapeaaGreatDoor.Va
open Go Go.RowKit Go.Proofs.Nu Go.Proofs.YtfoiaiblggapeaaGreatDoor.Uc Go.Proofs.YtfoiaiblggapeaaGreatDoor.Fd Go.Proofs.YtfoiaiblggapeaaGreatDoor.Nm
attribute [-go_sem] Go.Instr.loadAt Go.Instr.storeAt
set_option maxRecDepth 100000 in
set_option maxHeartbeats 8000000 in
theorem rrecCheck_any {N:Nat} {P:Nat→Prop} (k:Int) (l:List VT) (lv:Value) (w:World) (hPw:∀ b,P b→b<w.heap.size) (hE:Env w) (hl:LAtP P w N lv l) (hnd:(nodesL l+13)*2^3≤800000000):
 Calls Tryz.prog 17 #[.agg #[.int .i64 k,lv]] w fun r w'=>r= .returned (.int .i64 (recC (readF 3) (packF 3) k l))∧Below w.heap.size w w':=by
 obtain ⟨p,c,rfl⟩:=hl.slice
 obtain ⟨W1,hW1⟩:∃ W1,w.alloc (.cells #[.int .i64 k,.slice p l.length c] 33)=W1:=⟨_,rfl⟩
 obtain ⟨x1,hz1,hb1⟩:=one_box (cs:=[.int .i64 k,.slice p l.length c]) hW1
 have l0:=pload_int (x1.cell (j:=0) rfl)
 have X1:=Lib.hid x1
 have HB1:=Lib.hid hb1
 have HE1:=Lib.hid (hE.below hb1)
 have HL:=Lib.hid hl
 have HND:=Lib.hid hnd
 have HP:=Lib.hid hPw
 have hfk:=rfields_any k W1
 unfold FieldsAns at hfk
 obtain ⟨R,hR⟩:∃ R,recC (readF 3) (packF 3) k l=R:=⟨_,rfl⟩
 obtain ⟨of,hof⟩:∃ of,fieldsT k=of:=⟨_,rfl⟩
 have HOF:=Lib.hid hof
 have HR:Hid (R=recOf k l of):=by
  show R=_
  rw [←hR,←hof];exact recC_of k l
 rw [hof] at hfk
 rw [hR]
 have HFK:=Lib.hid hfk
 clear hl x1 hb1 hE hnd hfk hR hPw
 go_enter Tryz.func17,Tryz.ntmps17
 go_wp2_with (fail)
 clear hW1 l0
 refine HFK.out.mono ?_
 rintro r w2 ⟨vf,rfl,hfo,hb2⟩
 have z2:=hb2.size
 have X1b:=Lib.hid (X1.out.below hb2 (by omega))
 have HB2:=Lib.hid (HB1.out.trans (hb2.mono (by omega)))
 have HE2:=Lib.hid (HE1.out.below hb2)
 clear hb2
 cases of with
 |none=>
  have HRE:Hid (R=70):=HR.out
  rcases hfo with ⟨_,rfl⟩|⟨h,_⟩
  ·go_wp2
   go_ret
   exact ⟨pint HRE.out.symm,HB2.out⟩
  ·exact absurd rfl h
 |some fs=>
  have HRR:Hid (R=if l.length≠fs.length then 71 else if fieldsC (readF 3) fs l≠0 then fieldsC (readF 3) fs l else if 32<depthT (packF 3 k l) then 26 else 0):=HR.out
  have hfo':FsOwn W1.heap.size w2.heap.size w2 vf fs:=hfo
  obtain ⟨fp,fc,rfl,hu⟩:=hfo'.view
  have HFO:Hid (FsOwn W1.heap.size w2.heap.size w2 (.slice fp fs.length fc) fs):=hfo'
  have hfl:=fieldsT_len HOF.out
  obtain ⟨m,hm⟩:∃ m,fs.length=m:=⟨_,rfl⟩
  obtain ⟨g,hg⟩:∃ g,l.length=g:=⟨_,rfl⟩
  have Hm:=Lib.hid hm
  have Hg:=Lib.hid hg
  have hgl:g≤900000000:=by
   have h1:=nodesL_len l
   have:=HND.out
   omega
  simp only [Option.isSome_some]
  rw [hm] at HFO hfl ⊢
  rw [hg] at X1 X1b HL
  have l2:=wload_slice (X1b.out.cell (j:=1) rfl)
  clear hfo hfo' hu hm hg HR
  by_cases hne:g=m
  case neg=>
   have HRE:Hid (R=71):=HRR.out.trans (if_pos (by rw [Hm.out,Hg.out];exact hne))
   have hnb:((g:Int)!=(m:Int))=true:=by simp;omega
   clear hne
   go_wp2
   go_ret
   exact ⟨pint HRE.out.symm,HB2.out⟩
  subst hne
  have HR2:=Lib.hid (HRR.out.trans (if_neg (by rw [Hm.out,Hg.out];simp)))
  go_wp2
  clear l2
  go_loopw [5] (fun iv wr=>∃ j:Nat,iv= .int .i64 j∧j≤g∧Hid (fieldsC (readF 3) fs l=fieldsC (readF 3) (fs.drop j) (l.drop j))∧Hid (Below w2.heap.size w2 wr)) (fun iv _=>g-(intOf iv).toNat)
  case atStart=>exact ⟨0,rfl,Nat.zero_le _,(by show fieldsC _ _ _=_;simp),Below.refl _ _⟩
  case round=>
   obtain ⟨j,rfl,hj,HJ,HBR⟩:=hrel
   by_cases hltj:j<g
   ·obtain ⟨x,hx⟩:∃ x,l[j]? =some x:=⟨_,List.getElem?_eq_getElem (by rw [Hg.out];exact hltj)⟩
    obtain ⟨f,hf⟩:∃ f,fs[j]? =some f:=⟨_,List.getElem?_eq_getElem (by rw [Hm.out];exact hltj)⟩
    have hbw:Below w.heap.size w wr:=HB2.out.trans (HBR.out.mono (by have:=HB2.out.size;omega))
    have hLr:=HL.out.below hbw
    cases N with
    |zero=>exact hLr.elim
    |succ N=>
    rcases hLr with ⟨h0,_⟩|⟨b,off,c',hp,_,hbB,_,hel⟩
    ·exfalso;have:=Hg.out;rw [h0] at this;simp at this;omega
    rw [Hg.out] at hp
    cases hp
    obtain ⟨xf,xlv,xat,xl⟩:=hel j x hx
    obtain ⟨xq,xd,rfl⟩:=xl.slice
    obtain ⟨q1,d1,e1,hv⟩:=(HFO.out.below HBR.out).view
    obtain ⟨fb,foff,kv,rfl,hfb,⟨a0,a1,a2,a3,a4,a5,a6,a7,a8⟩,hkv⟩:=hv j f hf
    simp only [Value.slice.injEq] at e1
    obtain ⟨rfl, -, -⟩:=e1
    obtain ⟨kp,kc,rfl,hku⟩:=hkv.view
    have hcf:Cells wr fb (foff+j*9) (fcell f (.slice kp f.kinds.length kc)):=fun j u hu=>by
     match j,hu with
     |0,hu=>cases hu;exact a0
     |1,hu=>cases hu;exact a1
     |2,hu=>cases hu;exact a2
     |3,hu=>cases hu;exact a3
     |4,hu=>cases hu;exact a4
     |5,hu=>cases hu;exact a5
     |6,hu=>cases hu;exact a6
     |7,hu=>cases hu;exact a7
     |8,hu=>cases hu;exact a8
     |j+9,hu=>simp [fcell] at hu
    have hj0:(0:Int)≤(j:Int):=by omega
    have hj1:(j:Int)<(g:Int):=by omega
    have hnx:nodes x≤nodesL l:=nodesL_mem (List.mem_of_getElem? hx)
    have hkl:f.kinds.length≤1000:=by
     obtain ⟨e,he,_,h2⟩:=fieldsT_mem HOF.out
     have:=(tab_len e he).2 f (by rw [h2];exact List.mem_of_getElem? hf)
     omega
    have hzr:=HBR.out.size
    have hzw:=HB2.out.size
    have HLF:Hid (∀ v,Below wr.heap.size wr v→(Instr.loadAt 65 (.pointer (some ⟨fb,foff+j*9,none⟩))).run Tryz.prog v= .ok (.agg #[.string ⟨f.name.toArray⟩,.int .i64 f.type,.slice kp f.kinds.length kc,.bool f.must,.int .i64 f.dk,.int .u64 f.dn,.string ⟨f.dt.toArray⟩,.slice none 0 0,.int .i64 0]) v∧(Instr.loadAt 31 (.pointer (some ⟨w.heap.size,1,none⟩))).run Tryz.prog v= .ok (.slice (some ⟨b,off,none⟩) g c) v∧(Instr.loadAt 42 (.pointer (some ⟨b,off+j*5,none⟩))).run Tryz.prog v= .ok (.agg #[.int .i64 x.kind,.int .u64 x.num,.string x.text,.slice xq x.list.length xd,.int .i64 x.elem]) v):=fun v h=>by
     have hc:Cells v fb (foff+j*9) (fcell f (.slice kp f.kinds.length kc)):=fun j u hu=>(h.cell (p:=⟨fb,_,none⟩) hfb).trans (hcf j u hu)
     exact ⟨pload_field hc,wload_slice (((X1b.out.below HBR.out (by omega)).below h (by omega)).cell (j:=1) rfl),wload_value (at5_cells (xat.below h hbB))⟩
    have HCK:Hid (∀ v,Below wr.heap.size wr v→Calls Tryz.prog 41 #[.agg #[.string ⟨f.name.toArray⟩,.int .i64 f.type,.slice kp f.kinds.length kc,.bool f.must,.int .i64 f.dk,.int .u64 f.dn,.string ⟨f.dt.toArray⟩,.slice none 0 0,.int .i64 0],.agg #[.int .i64 x.kind,.int .u64 x.num,.string x.text,.slice xq x.list.length xd,.int .i64 x.elem]] v fun r w'=>r= .returned (.int .i64 (fieldC (readF 3) f x))∧Below v.heap.size v w'):=fun v h=>
     suits_any (n:=3) (N:=N) (P:=P) (fun m hm=>(rref_any m).1) f (.slice kp f.kinds.length kc) x (.slice xq x.list.length xd) v (fun b hb=>by have:=HP.out b hb;have:=h.size;omega) ((HE2.out.below HBR.out).below h) (hkv.below h) hkl xf (xl.below h) (fun h1 h2=>Nat.lt_of_lt_of_le (wanted_rk HOF.out (List.mem_of_getElem? hf) h1 h2) (rk_le k)) (Nat.le_trans (Nat.mul_le_mul_right _ (Nat.add_le_add_right hnx 13)) HND.out)
    have HJ2:=Lib.hid (HJ.out.trans (fieldsC_drop hf hx))
    obtain ⟨E,hE⟩:∃ E,fieldC (readF 3) f x=E:=⟨_,rfl⟩
    rw [hE] at HCK HJ2
    clear hel hx hf xat xl hv hkv hku a0 a1 a2 a3 a4 a5 a6 a7 a8 hcf hnx hkl hE hbw
    go_wp2
    go_region_held3 (fun v=>(Instr.loadAt 65 (.pointer (some ⟨fb,foff+j*9,none⟩))).run Tryz.prog v= .ok (.agg #[.string ⟨f.name.toArray⟩,.int .i64 f.type,.slice kp f.kinds.length kc,.bool f.must,.int .i64 f.dk,.int .u64 f.dn,.string ⟨f.dt.toArray⟩,.slice none 0 0,.int .i64 0]) v∧(Instr.loadAt 31 (.pointer (some ⟨w.heap.size,1,none⟩))).run Tryz.prog v= .ok (.slice (some ⟨b,off,none⟩) g c) v∧(Instr.loadAt 42 (.pointer (some ⟨b,off+j*5,none⟩))).run Tryz.prog v= .ok (.agg #[.int .i64 x.kind,.int .u64 x.num,.string x.text,.slice xq x.list.length xd,.int .i64 x.elem]) v)
     (first
       |with_reducible exact HLF.out _ hb5
       |with_reducible exact HLF.out _ (Below.refl _ _).drew
       |with_reducible exact HLF.out _ (Below.refl _ _))
     ((go_at_call 41;refine (HCK.out _ (Below.refl _ _).drew).mono ?_;rintro r V ⟨rfl,hb5'⟩;have hb5:Below wr.heap.size wr V:=(Below.refl _ _).drew.trans hb5';clear hb5'))
    have HBV:Hid (Below w2.heap.size w2 V):=HBR.out.trans (hb5.mono (by omega))
    clear hb5
    by_cases hE0:E=0
    ·subst hE0
     have HJ3:=Lib.hid (HJ2.out.trans (if_neg (by simp)))
     go_wp2
     go_roundw
     case rel=>exact ⟨j+1,by go_num,by omega,HJ3.out,HBV.out⟩
     case measure=>simp [intOf];omega
    ·have hEb:(E !=0)=true:=by simp [hE0]
     have HJ3:=Lib.hid (HJ2.out.trans (if_pos hE0))
     have HRE:Hid (R=E):=HR2.out.trans ((if_pos (by rw [HJ3.out];exact hE0)).trans HJ3.out)
     clear hE0
     go_wp2
     go_ret
     exact ⟨pint HRE.out.symm,HB2.out.trans (HBV.out.mono (by have:=HB2.out.size;omega))⟩
   ·obtain rfl:j=g:=by omega
    have HJ0:Hid (fieldsC (readF 3) fs l=0):=by
     show _=_
     rw [HJ.out,List.drop_eq_nil_of_le (by rw [Hm.out];omega)];rfl
    have HR3:=Lib.hid (HR2.out.trans (if_neg (by rw [HJ0.out];simp)))
    have hzr:=HBR.out.size
    have hzw:=HB2.out.size
    have lr:=pload_rec (X1b.out.below HBR.out (by omega))
    have hbw:Below w.heap.size w wr:=HB2.out.trans (HBR.out.mono (by omega))
    have HPC:=Lib.hid ((rref_any 3).2 P _ _ N k fs l (.slice p j c) (.slice fp j fc) wr (fun b hb=>by have:=HP.out b hb;have:=hbw.size;omega) (HE2.out.below HBR.out) HOF.out (by rw [Hg.out,Hm.out]) (HFO.out.below HBR.out) (HL.out.below hbw) (rk_le k) HND.out (good_fields HJ0.out))
    clear hbw
    go_wp2_with (fail)
    refine HPC.out.mono ?_
    rintro r w5 ⟨lv5,M5,rfl,ho5,hb5⟩
    obtain ⟨q5,c5,rfl⟩:=ho5.slice
    obtain ⟨Wa,hWa⟩:∃ Wa,w5.alloc (.cells #[.int .i64 0,.int .u64 0,.string ⟨#[]⟩,.slice none 0 0,.int .i64 0] 42)=Wa:=⟨_,rfl⟩
    obtain ⟨xa,hza,hba⟩:=one_box (cs:=zeroT.cells (.slice none 0 0)) hWa
    obtain ⟨Wb,hst,xb,hbb,hzb⟩:=val_box xa rfl (packF 3 k l) q5 (packF 3 k l).list.length c5
    have hab:Below w5.heap.size w5 Wb:=hba.trans hbb
    have lq:=wload_value xb.1
    have HDP:=Lib.hid (rdepths M5 Wb.heap.size (packF 3 k l) (.slice q5 (packF 3 k l).list.length c5) Wb (ho5.below hab).lat (Nat.le_refl _) (by have h1:nodes (packF 3 k l)≤2*nodesL l+3:=pack_nodes2 (mild2F 3) k l;have:=HND.out;omega))
    have hz5:=hb5.size
    have HB5:=Lib.hid (HB2.out.trans ((HBR.out.trans ((hb5.trans (hab.mono hz5)).mono (by omega))).mono (by omega)))
    clear ho5
    obtain ⟨D,hD⟩:∃ D,depthT (packF 3 k l)=D:=⟨_,rfl⟩
    rw [hD] at HDP HR3
    clear hD hb5 xa hba xb hbb hab hz5 lr
    go_wp2_with (fail)
    refine HDP.out.mono ?_
    rintro r w6 ⟨rfl,hk6⟩
    have HB6:=Lib.hid (HB5.out.trans (hk6.mono (by have:=HB5.out.size;omega)))
    clear hk6 lq hst
    by_cases hd:32<D
    ·have HRE:Hid (R=26):=HR3.out.trans (if_pos hd)
     have hdb:decide ((D:Int)>32)=true:=by simp;omega
     go_wp2
     go_ret
     exact ⟨pint HRE.out.symm,HB6.out⟩
    ·have HRE:Hid (R=0):=HR3.out.trans (if_neg hd)
     have hdb:decide ((D:Int)>32)=false:=by simp;omega
     go_wp2
     go_ret
     exact ⟨pint HRE.out.symm,HB6.out⟩
end Go.Proofs.YtfoiaiblggapeaaGreatDoor.Va
namespace Go.Proofs.YtfoiaiblggapeaaGreatDoor.Va
open Go Go.RowKit Go.Proofs.Nu
set_option maxRecDepth 100000 in
theorem greatAll_any {N B:Nat} {l:List VT} {lv:Value} {w:World} (hl:LAt B w N lv l) (hB:B≤w.heap.size):
 Calls Tryz.prog 14 #[lv] w fun r w'=>r= .returned (.bool (decide (100000<wts l 0)))∧Below w.heap.size w w':=by
 have HL:=Lib.hid hl
 obtain ⟨p,c,rfl⟩:=hl.slice
 have hlen:l.length≤9223372036854775807:=hl.len
 clear hl
 obtain ⟨n,hn⟩:∃ n,l.length=n:=⟨_,rfl⟩
 have Hn:=Lib.hid hn
 rw [hn] at hlen ⊢
 clear hn
 go_enter Tryz.func14,Tryz.ntmps14
 go_wp2
 go_loopw [3,4] (fun v i wr=>∃ (j q:Nat),v= .int .i64 q∧i= .int .i64 j∧j≤n∧Hid (wts (l.drop j) q=wts l 0)∧Hid (Below w.heap.size w wr)) (fun _ i _=>n-(intOf i).toNat)
 case atStart=>exact ⟨0,0,rfl,rfl,Nat.zero_le _,rfl,Below.refl _ _⟩
 case round=>
  obtain ⟨j,q,rfl,rfl,hj,HQ,hb⟩:=hrel
  have hend:∀ (q':Nat),¬j<n∨100000<q→(q:Nat)=wts l 0:=fun _ h=>by
   have:=HQ.out
   rcases h with h|h
   ·obtain rfl:j=n:=by omega
    rw [←Hn.out,wts_end] at this;omega
   ·rw [wts_big _ h] at this;omega
  have hE:=Lib.hid hend;clear hend
  by_cases hlt:j<n
  ·have hlt':(j:Int)<(n:Int):=by omega
   by_cases hq:q≤100000
   ·cases N with
    |zero=>exact HL.out.elim
    |succ N=>
     rcases HL.out with ⟨h0,_⟩|⟨b,off,c',hp,hbB,_,hel⟩
     ·rw [←Hn.out,h0] at hlt;exact absurd hlt (by simp)
     rw [Hn.out] at hp
     cases hp
     obtain ⟨t,ht⟩:∃ t,l[j]? =some t:=⟨_,List.getElem?_eq_getElem (by rw [Hn.out];exact hlt)⟩
     obtain ⟨hf,lv,hat,hl⟩:=hel j t ht
     have hbw:Below B w wr:=hb.out.mono hB
     obtain ⟨e0,e1,e2,e3,e4⟩:=hat.below hbw hbB
     have hst:=Lib.hid (wts_step ht hq)
     have HC:Hid (Calls Tryz.prog 37 #[.agg #[.int .i64 t.kind,.int .u64 t.num,.string t.text,lv,.int .i64 t.elem],.int .i64 q] wr fun r w'=>r= .returned (.int .i64 (wt t q:Nat))∧Below wr.heap.size wr w'):=
      weigh_any (N:=N) (B:=B) (t:=t) (n:=q) ⟨hf,lv,rfl,hl.below hbw⟩ (by have:=hb.out.size;omega) hq
     clear hel hl hat ht
     go_wp2_with (go_at_call 37;refine HC.out.mono ?_;rintro r w2 ⟨rfl,hb2⟩)
     go_roundw
     case rel=>exact ⟨j+1,_,rfl,by go_num,by omega,by rw [←hst.out];exact HQ.out,hb.out.trans (hb2.mono hb.out.size)⟩
     case measure=>simp [intOf];omega
   ·have hq':¬((q:Int)≤100000):=by omega
    go_wp2
    go_ret
    refine ⟨ret_bool ?_,hb.out⟩
    rw [←hE.out q (.inr (by omega)),Bool.eq_iff_iff];simp<;>omega
  ·have hlt':¬((j:Int)<(n:Int)):=by omega
   go_wp2
   all_goals
    go_ret
    refine ⟨ret_bool ?_,hb.out⟩
    rw [←hE.out q (.inl hlt),Bool.eq_iff_iff];simp<;>omega
end Go.Proofs.YtfoiaiblggapeaaGreatDoor.Va
namespace Go.Proofs.YtfoiaiblggapeaaGreatDoor.Va
open Go Go.RowKit Go.Proofs.Nu
def LentS (N:Nat):Prop:=∀ (B:Nat) (lv:Value) (l:List VT) (w:World),LAt B w N lv l→Sms l→B≤w.heap.size→
    Calls Tryz.prog 15 #[lv] w fun r w'=>∃ v',r= .returned v'∧LentAt w' N w.heap.size w'.heap.size v' l∧Below w.heap.size w w'
theorem lsize_alloc (w:World) (o:Obj):(w.alloc o).heap.size=w.heap.size+1:=Array.size_push ..
theorem heap_new (w:World) (o:Obj):(w.alloc o).heap[w.heap.size]? =some o:=by
 show (w.heap.push o)[w.heap.size]? =some o
 simp
theorem below_boxes2 (w:World) (o o':Obj):Below w.heap.size w ((w.alloc o).alloc o'):=((Below.refl _ _).alloc (Nat.le_refl _) _).alloc (by rw [lsize_alloc];omega) _
theorem lent_box (w:World) (a0 a1 a2 a3 a4 z0 z1 z2 z3 z4:Value) (T:TypeId) (w':World) (hb:Below (w.heap.size+2) ((w.alloc (.cells #[a0,a1,a2,a3,a4] T)).alloc (.cells #[z0,z1,z2,z3,z4] T)) w'):
 (w'.cell? ⟨w.heap.size,0,none⟩=some a0∧w'.cell? ⟨w.heap.size,1,none⟩=some a1∧w'.cell? ⟨w.heap.size,2,none⟩=some a2∧w'.cell? ⟨w.heap.size,3,none⟩=some a3∧w'.cell? ⟨w.heap.size,4,none⟩=some a4∧w'.frozen? ⟨w.heap.size,3,none⟩=false)∧
 (w'.cell? ⟨w.heap.size+1,0,none⟩=some z0∧w'.cell? ⟨w.heap.size+1,1,none⟩=some z1∧w'.cell? ⟨w.heap.size+1,2,none⟩=some z2∧w'.cell? ⟨w.heap.size+1,3,none⟩=some z3∧w'.cell? ⟨w.heap.size+1,4,none⟩=some z4)∧
 (w'.frozen? ⟨w.heap.size+1,0,none⟩=false∧w'.frozen? ⟨w.heap.size+1,1,none⟩=false∧w'.frozen? ⟨w.heap.size+1,2,none⟩=false∧w'.frozen? ⟨w.heap.size+1,3,none⟩=false∧w'.frozen? ⟨w.heap.size+1,4,none⟩=false)∧
 w'.heap[w.heap.size+1]? =some (.cells #[z0,z1,z2,z3,z4] T (0,0)):=by
 have h0:w'.heap[w.heap.size]? =some (.cells #[a0,a1,a2,a3,a4] T (0,0)):=(hb.block _ (by omega)).trans ((Below.heap_alloc _ _ _ (by rw [lsize_alloc];omega)).trans (heap_new _ _))
 have h1:w'.heap[w.heap.size+1]? =some (.cells #[z0,z1,z2,z3,z4] T (0,0)):=(hb.block _ (by omega)).trans (by rw [←lsize_alloc w];exact heap_new _ _)
 refine ⟨⟨?_,?_,?_,?_,?_,?_⟩,⟨?_,?_,?_,?_,?_⟩,⟨?_,?_,?_,?_,?_⟩,h1⟩
 all_goals simp [World.cell?,World.frozen?,h0,h1]
set_option maxRecDepth 100000 in
theorem lent_of {N:Nat} (hS:LentS N) (B:Nat) (k m:Int) (s:ByteArray) (e:Int) (l:List VT) (lv:Value) (w:World) (hl:LAt B w N lv l) (hs:Sms l) (hB:B≤w.heap.size):
 Calls Tryz.prog 25 #[.agg #[.int .i64 k,.int .u64 m,.string s,lv,.int .i64 e]] w fun r w'=>∃ v',r= .returned (.agg #[.int .i64 k,.int .u64 m,.string s,v',.int .i64 e])∧LentAt w' N w.heap.size w'.heap.size v' l∧Below w.heap.size w w':=by
 have HC:Hid (∀ w',Below w.heap.size w w'→Calls Tryz.prog 15 #[lv] w' fun r w''=>∃ v',r= .returned v'∧LentAt w'' N w'.heap.size w''.heap.size v' l∧Below w'.heap.size w' w''):=fun w' h=>hS B lv l w' (hl.below (h.mono hB)) hs (Nat.le_trans hB h.size)
 clear hl hs
 have HBX:=Lib.hid (lent_box w (.int .i64 k) (.int .u64 m) (.string s) lv (.int .i64 e) (.int .i64 0) (.int .u64 0) (.string ⟨#[]⟩) (.slice none 0 0) (.int .i64 0) 42)
 go_enter Tryz.func25,Tryz.ntmps25
 go_wp2_with (fail)
 have hbW:=Lib.hid ((below_boxes2 w (.cells #[.int .i64 k,.int .u64 m,.string s,lv,.int .i64 e] 42) (.cells #[.int .i64 0,.int .u64 0,.string ⟨#[]⟩,.slice none 0 0,.int .i64 0] 42)))
 have hzW:Hid (((w.alloc (.cells #[.int .i64 k,.int .u64 m,.string s,lv,.int .i64 e] 42)).alloc (.cells #[.int .i64 0,.int .u64 0,.string ⟨#[]⟩,.slice none 0 0,.int .i64 0] 42)).heap.size=w.heap.size+2):=by show _=_;rw [lsize_alloc,lsize_alloc]
 obtain ⟨W1,hW1⟩:∃ W1,(w.alloc (.cells #[.int .i64 k,.int .u64 m,.string s,lv,.int .i64 e] 42)).alloc (.cells #[.int .i64 0,.int .u64 0,.string ⟨#[]⟩,.slice none 0 0,.int .i64 0] 42)=W1:=⟨_,rfl⟩
 rw [hW1] at HBX hbW hzW ⊢
 clear hW1
 refine (HC.out W1 hbW.out).mono ?_
 rintro r w2 ⟨v',rfl,hL,hb2⟩
 obtain ⟨b',hv'⟩:=hL.form
 subst hv'
 have HL2:=Lib.hid hL
 have b2:Hid (Below (w.heap.size+2) W1 w2):=hb2.mono (Nat.le_of_eq hzW.out.symm)
 have s2:Hid (w.heap.size+2≤w2.heap.size):=Nat.le_trans (Nat.le_of_eq hzW.out.symm) hb2.size
 clear hL hb2
 obtain ⟨⟨a0,a1,a2,a3,a4,af⟩,⟨z0,z1,z2,z3,z4⟩,⟨f0,f1,f2,f3,f4⟩,hg⟩:=HBX.out w2 b2.out
 have HG:=Lib.hid hg
 clear hg
 go_wp2
 obtain ⟨v',hv'⟩:∃ v',Value.slice (some ⟨b',0,none⟩) l.length (l.length+3)=v':=⟨_,rfl⟩
 have hL3:=HL2.out
 rw [hv'] at hL3 ⊢
 have hh:Hid ((w2.setCell ⟨w.heap.size,3,none⟩ v').heap[w.heap.size+1]? =some (.cells #[.int .i64 0,.int .u64 0,.string ⟨#[]⟩,.slice none 0 0,.int .i64 0] 42 (0,0))):=(Below.heap_setCell _ _ _ _ (by simp)).trans HG.out
 have HW:=Lib.hid (heap5 (v0:= .int .i64 k) (v1:= .int .u64 m) (v2:= .string s) (v3:=v') (v4:= .int .i64 e) hh.out)
 refine bodyPost_ret_by (results_cell_row rfl _ _ (w.heap.size+1) _ _ _ _ rfl HW.out Tryz.underlying42 rfl (by kernel_rfl)) rfl ⟨v',rfl,?_,?_⟩
 ·have ha:Apart w.heap.size (w.heap.size+2) w2 (set5 (w2.setCell ⟨w.heap.size,3,none⟩ v') (w.heap.size+1) 0 (.int .i64 k) (.int .u64 m) (.string s) v' (.int .i64 e)):=
   ((Apart.refl w.heap.size (w.heap.size+2) w2).setCell (p:=⟨w.heap.size,3,none⟩) (Nat.le_refl _) (Nat.lt_add_of_pos_right (by decide)) v').trans ((set5_apart _ _ _ _ _ _ _ _).wide (by omega) (by omega))
  have:=hL3.apart ha (Nat.le_refl _) (.inr (Nat.le_of_eq hzW.out.symm))
  have hz:(set5 (w2.setCell ⟨w.heap.size,3,none⟩ v') (w.heap.size+1) 0 (.int .i64 k) (.int .u64 m) (.string s) v' (.int .i64 e)).heap.size=w2.heap.size:=by rw [set5_size];simp [World.setCell]
  rw [←hz] at this
  exact this.lo (Nat.le_trans (Nat.le_add_right _ 2) (Nat.le_of_eq hzW.out.symm))
 ·exact set5_below ((hbW.out.trans (b2.out.mono (by omega))).setCell (p:=⟨w.heap.size,3,none⟩) (Nat.le_refl _) v') (by omega)
end Go.Proofs.YtfoiaiblggapeaaGreatDoor.Va
namespace Go.Proofs.YtfoiaiblggapeaaGreatDoor.Va
open Go Go.RowKit Go.Proofs.Nu
noncomputable def infoLV:TypeInfo:=match Tryz.prog.info? 42 with|some i=>i|none=>default
theorem info_lv:Tryz.prog.info? 42=some infoLV:=by kernel_rfl
theorem infoLV_zero:infoLV.zero=some (.agg #[.int .i64 0,.int .u64 0,.string ⟨#[]⟩,.slice none 0 0,.int .i64 0]):=by kernel_rfl
theorem infoLV_size:infoLV.size=5:=by kernel_rfl
theorem infoLV_bytes:infoLV.bytes=64:=by kernel_rfl
theorem make_values (w:World) (n:Nat) (hn:n≤100000):∃ C:Array Value,C.size=(n+3)*5∧(Instr.makeSlice 31 (.int .i64 (n+3)) (.int .i64 (n+3))).run Tryz.prog w= .ok (.slice (some ⟨w.heap.size,0,none⟩) (n+3) (n+3)) (w.alloc (.cells C 42)):=by
 have:=run_make (P:=Tryz.prog) w 31 42 infoLV _ Tryz.underlying31 info_lv infoLV_zero .i64 .i64 (n+3) (n+3) (by omega) (Int.le_refl _) (by rw [infoLV_bytes];omega) (by omega)
 rw [infoLV_size] at this
 have e:(((n:Int)+3).toNat)=n+3:=by omega
 rw [e] at this
 exact ⟨_,size_madeCells _ _,this⟩
set_option maxRecDepth 100000 in
set_option maxHeartbeats 2000000 in
theorem lents:∀ N,LentS N:=by
 intro N
 induction N with
 |zero=>intro B lv l w h;exact h.elim
 |succ N ih=>
  intro B lv l w hl hs hB
  have HS:=Lib.hid ih
  have HL:=Lib.hid hl
  have HSM:=Lib.hid hs
  obtain ⟨p,c,rfl⟩:=hl.slice
  have hlen:=hs.len
  clear hl hs ih
  obtain ⟨n,hn⟩:∃ n,l.length=n:=⟨_,rfl⟩
  have Hn:=Lib.hid hn
  rw [hn] at hlen ⊢
  clear hn
  obtain ⟨C,hC,hmk⟩:=make_values w n hlen
  have hw3:IntKind.i64.wrap ((n:Int)+3)=n+3:=by rw [IntKind.wrap_i64];omega
  have HR0:Hid (LRel w (w.alloc (.cells C 42)) N 0 l):=LRel.start (by rw [Hn.out];exact hC)
  clear hC
  go_enter Tryz.func15,Tryz.ntmps15
  go_wp2
  clear hmk
  go_loopw [5] (fun i wr=>∃ (j:Nat),i= .int .i64 j∧j≤n+3∧Hid (LRel w wr N j l)) (fun i _=>n+3-(intOf i).toNat)
  case atStart=>exact ⟨0,rfl,Nat.zero_le _,HR0⟩
  case round=>
   obtain ⟨j,rfl,hj,HR⟩:=hrel
   have h3:=hlen
   by_cases hlt:j<n+3
   ·obtain ⟨v0,v1,v2,v3,v4,e0,e1,e2,e3,e4⟩:=HR.out.has.at5 (o:=j*5) (by rw [Hn.out];omega)
    have q0:=HR.out.froz (j*5)
    have q1:=HR.out.froz (j*5+1)
    have q2:=HR.out.froz (j*5+2)
    have q3:=HR.out.froz (j*5+3)
    have q4:=HR.out.froz (j*5+4)
    have hlt3:(j:Int)<(n:Int)+3:=by omega
    by_cases hjn:j<n
    ·rcases HL.out with ⟨h0,_⟩|⟨b0,off,c',hp,hbB,_,hel⟩
     ·rw [←Hn.out,h0] at hjn;exact absurd hjn (by simp)
     rw [Hn.out] at hp
     cases hp
     obtain ⟨t,ht⟩:∃ t,l[j]? =some t:=⟨_,List.getElem?_eq_getElem (by rw [Hn.out];exact hjn)⟩
     obtain ⟨hf,lv,hat,hlv⟩:=hel j t ht
     obtain ⟨g0,g1,g2,g3,g4⟩:=hat.below (HR.out.below.mono hB) hbB
     have hne:b0≠w.heap.size:=by omega
     have hne':w.heap.size≠b0:=by omega
     have hjn':(j:Int)<(n:Int):=by omega
     have HT:=Lib.hid ht
     have HF:=Lib.hid hf
     have hsm:=HSM.out.child ht
     have HC:Hid (∀ w',Below w.heap.size w w'→Calls Tryz.prog 25 #[.agg #[.int .i64 t.kind,.int .u64 t.num,.string t.text,lv,.int .i64 t.elem]] w' fun r w''=>∃ b',r= .returned (.agg #[.int .i64 t.kind,.int .u64 t.num,.string t.text,.slice (some ⟨b',0,none⟩) t.list.length (t.list.length+3),.int .i64 t.elem])∧LentAt w'' N w'.heap.size w''.heap.size (.slice (some ⟨b',0,none⟩) t.list.length (t.list.length+3)) t.list∧Below w'.heap.size w' w''):=fun w' hb'=>
      (lent_of HS.out B t.kind t.num t.text t.elem t.list lv w' (hlv.below (hb'.mono hB)) hsm (Nat.le_trans hB hb'.size)).mono fun r w'' ⟨v',h1,h2,h3⟩=>by
        obtain ⟨b',hb''⟩:=h2.form
        subst hb''
        exact ⟨b',h1,h2,h3⟩
     clear hel hat hlv ht hf hsm
     go_wp2_with (fail)
     generalize hW5:World.setCell _ _ _=W5
     have HW5:Hid (set5 wr w.heap.size (j*5) (.int .i64 (-7)) (.int .u64 j) (.string ⟨#[]⟩) (.slice none 0 0) (.int .i64 0)=W5):=hW5
     clear hW5
     refine (HC.out W5 (by rw [←HW5.out];exact set5_below HR.out.below (Nat.le_refl _))).mono ?_
     rintro r w2 ⟨b',rfl,hL,hb2⟩
     have HL2:=Lib.hid hL
     have HB2:=Lib.hid hb2
     have hlt5:w.heap.size<W5.heap.size:=by rw [←HW5.out,set5_size];exact HR.out.lt
     have HS5:Has W5 w.heap.size ((l.length+3)*5):=by rw [←HW5.out];exact HR.out.has.set5 (by rw [Hn.out];omega)
     have fz:∀ o,w2.frozen? ⟨w.heap.size,o,none⟩=false:=fun o=>(hb2.frozen (p:=⟨_,o,none⟩) hlt5).trans (by rw [←HW5.out,set5_frozen];exact HR.out.froz o)
     obtain ⟨u0,u1,u2,u3,u4,x0,x1,x2,x3,x4⟩:=(HS5.below hb2 hlt5).at5 (o:=j*5) (by rw [Hn.out];omega)
     have y0:=fz (j*5)
     have y1:=fz (j*5+1)
     have y2:=fz (j*5+2)
     have y3:=fz (j*5+3)
     have y4:=fz (j*5+4)
     clear hL hb2 HS5 fz e0 e1 e2 e3 e4 q0 q1 q2 q3 q4 g0 g1 g2 g3 g4 hlt5
     go_wp2
     go_roundw
     case rel=>exact ⟨j+1,by go_num,by omega,HR.out.part HT.out HF.out _ _ _ _ _ (by rw [HW5.out];exact HB2.out) (by rw [HW5.out];exact HL2.out)⟩
     case measure=>simp [intOf];omega
    ·have hjn':¬((j:Int)<(n:Int)):=by omega
     go_wp2
     go_roundw
     case rel=>exact ⟨j+1,by go_num,by omega,HR.out.mark (by rw [Hn.out];omega) (by rw [Hn.out];omega)⟩
     case measure=>simp [intOf];omega
   ·obtain rfl:j=n+3:=by omega
    go_wp2
    go_ret
    have:=HR.out
    rw [←Hn.out] at this
    refine ⟨_,rfl,?_,this.below⟩
    rw [←Hn.out]
    exact this.done (by rw [Hn.out];exact hlen)
end Go.Proofs.YtfoiaiblggapeaaGreatDoor.Va
namespace Go.Proofs.YtfoiaiblggapeaaGreatDoor.Va
open Go Go.RowKit Go.Proofs.Nu
attribute [local go_sem ↓] Go.wp_at_zero Go.wp_at_succ
def KeptS (N:Nat):Prop:=∀ (B lo hi:Nat) (v lv:Value) (l:List VT) (w:World),LentAt w N lo hi v l→LAt B w N lv l→B≤lo→hi≤w.heap.size→
    Calls Tryz.prog 18 #[v,lv] w fun r w'=>r= .returned (.bool true)∧Apart lo hi w w'
set_option maxRecDepth 100000 in
theorem kept_of {N:Nat} (hS:KeptS N) (B lo hi:Nat) (k m:Int) (s:ByteArray) (e:Int) (l:List VT) (v lv:Value) (w:World) (hl:LentAt w N lo hi v l) (ho:LAt B w N lv l) (hB:B≤lo) (hhi:hi≤w.heap.size):
 Calls Tryz.prog 29 #[.agg #[.int .i64 k,.int .u64 m,.string s,v,.int .i64 e],.agg #[.int .i64 k,.int .u64 m,.string s,lv,.int .i64 e]] w fun r w'=>r= .returned (.bool true)∧Apart lo hi w w':=by
 have hle:=hl.le
 have HC:Hid (∀ w',Below w.heap.size w w'→Calls Tryz.prog 18 #[v,lv] w' fun r w''=>r= .returned (.bool true)∧Apart lo hi w' w''):=fun w' h=>hS B lo hi v lv l w' (hl.below hhi h) (ho.below (h.mono (by omega))) hB (Nat.le_trans hhi h.size)
 obtain ⟨b',hv'⟩:=hl.form
 obtain ⟨p',c',hlv'⟩:=ho.slice
 subst hv' hlv'
 clear hl ho
 go_enter Tryz.func29,Tryz.ntmps29
 go_wp2_with (fail)
 refine (HC.out _ (below_boxes2 w _ _)).mono ?_
 rintro r w2 ⟨rfl,ha⟩
 have HA:=Lib.hid ((Apart.of_below (lo:=lo) (hi:=hi) (below_boxes2 w _ _) (Nat.le_refl _)).trans ha)
 clear ha
 go_wp2
 go_ret
 exact ⟨rfl,HA.out⟩
set_option maxRecDepth 100000 in
set_option maxHeartbeats 4000000 in
theorem kepts:∀ N,KeptS N:=by
 intro N
 induction N with
 |zero=>intro B lo hi v lv l w h;exact h.elim
 |succ N ih=>
  intro B lo hi v lv l w hl ho hB hhi
  have HS:=Lib.hid ih
  have HL:=Lib.hid ho
  obtain ⟨p,c,rfl⟩:=ho.slice
  obtain ⟨b,rfl,hlo,hbh,hlen,hA⟩:=lentAt_open hl
  have HA0:=Lib.hid hA
  clear hl ho ih hA
  obtain ⟨n,hn⟩:∃ n,l.length=n:=⟨_,rfl⟩
  have Hn:=Lib.hid hn
  rw [hn] at hlen ⊢
  clear hn
  have hw3:IntKind.i64.wrap ((n:Int)+3)=n+3:=by rw [IntKind.wrap_i64];omega
  go_enter Tryz.func18,Tryz.ntmps18
  go_wp2
  go_loopw [7,8,9] (fun g i x wr=>∃ (j:Nat),g= .bool true∧i= .int .i64 j∧j≤n+3∧Hid (ARel w wr N b lo hi j l)) (fun _ i _ _=>n+3-(intOf i).toNat)
  case atStart=>exact ⟨0,rfl,rfl,Nat.zero_le _,HA0⟩
  case round=>
   obtain ⟨j,rfl,rfl,hj,HR⟩:=hrel
   by_cases hlt:j<n+3
   ·have hlt3:(j:Int)<(n:Int)+3:=by omega
    have q0:=HR.out.froz (j*5)
    have q1:=HR.out.froz (j*5+1)
    have q2:=HR.out.froz (j*5+2)
    have q3:=HR.out.froz (j*5+3)
    have q4:=HR.out.froz (j*5+4)
    by_cases hjn:j<n
    ·obtain ⟨t,ht⟩:∃ t,l[j]? =some t:=⟨_,List.getElem?_eq_getElem (by rw [Hn.out];exact hjn)⟩
     obtain ⟨x,y,lv',hbx,hy,hf,ha,hlent,hstep⟩:=HR.out.head ht hlo hhi
     rcases HL.out with ⟨h0,_⟩|⟨b0,off,c',hp,hbB,_,hel⟩
     ·rw [←Hn.out,h0] at hjn;exact absurd hjn (by simp)
     rw [Hn.out] at hp
     cases hp
     obtain ⟨_,lv0,hat0,hlv0⟩:=hel j t ht
     have hbw:Below B w wr:=HR.out.apart.below hB (by omega)
     obtain ⟨g0,g1,g2,g3,g4⟩:=hat0.below hbw hbB
     obtain ⟨e0,e1,e2,e3,e4⟩:=ha
     have hle:=hlent.le
     have hsz:=HR.out.apart.size
     have hjn':(j:Int)<(n:Int):=by omega
     have hne:b0≠b:=by omega
     have hne':b≠b0:=by omega
     have HC:Hid (∀ w',Below wr.heap.size wr w'→Calls Tryz.prog 29 #[.agg #[.int .i64 t.kind,.int .u64 t.num,.string t.text,lv',.int .i64 t.elem],.agg #[.int .i64 t.kind,.int .u64 t.num,.string t.text,lv0,.int .i64 t.elem]] w' fun r w''=>r= .returned (.bool true)∧Apart x y w' w''):=fun w' hb'=>
      kept_of HS.out B x y t.kind t.num t.text t.elem t.list lv' lv0 w' (hlent.below (by omega) hb') ((hlv0.below hbw).below (hb'.mono (by omega))) (by omega) (by have:=hb'.size;omega)
     have HST:=Lib.hid hstep
     clear hel hat0 hlv0 hbw ht hstep hlent hle
     have HALL:Hid (∀ w',Apart x y wr w'→(Apart x y wr w'∧w'.cell? ⟨b,j*5,none⟩=some (.int .i64 t.kind)∧w'.cell? ⟨b,j*5+1,none⟩=some (.int .u64 t.num)∧w'.cell? ⟨b,j*5+2,none⟩=some (.string t.text)∧w'.cell? ⟨b,j*5+3,none⟩=some lv'∧w'.cell? ⟨b,j*5+4,none⟩=some (.int .i64 t.elem)∧
      w'.cell? ⟨b0,off+j*5,none⟩=some (.int .i64 t.kind)∧w'.cell? ⟨b0,off+j*5+1,none⟩=some (.int .u64 t.num)∧w'.cell? ⟨b0,off+j*5+2,none⟩=some (.string t.text)∧w'.cell? ⟨b0,off+j*5+3,none⟩=some lv0∧w'.cell? ⟨b0,off+j*5+4,none⟩=some (.int .i64 t.elem))):=fun w' h=>
      have k:∀ o,w'.cell? ⟨b,o,none⟩=wr.cell? ⟨b,o,none⟩:=fun o=>h.cell (p:=⟨b,o,none⟩) (by show b<wr.heap.size;omega) (.inl hbx)
      have k0:∀ o,w'.cell? ⟨b0,o,none⟩=wr.cell? ⟨b0,o,none⟩:=fun o=>h.cell (p:=⟨b0,o,none⟩) (by show b0<wr.heap.size;omega) (.inl (by show b0<x;omega))
      ⟨h,(k _).trans e0,(k _).trans e1,(k _).trans e2,(k _).trans e3,(k _).trans e4,(k0 _).trans g0,(k0 _).trans g1,(k0 _).trans g2,(k0 _).trans g3,(k0 _).trans g4⟩
     obtain ⟨kk,hkk⟩:∃ kk,t.kind=kk:=⟨_,rfl⟩
     rw [hkk] at e0 g0 HC HALL
     clear hkk
     by_cases hk:kk= -7
     ·subst hk
      go_wp2
      go_region_held3 (fun w'=>Apart x y wr w'∧w'.cell? ⟨b,j*5,none⟩=some (.int .i64 (-7))∧w'.cell? ⟨b,j*5+1,none⟩=some (.int .u64 t.num)∧w'.cell? ⟨b,j*5+2,none⟩=some (.string t.text)∧w'.cell? ⟨b,j*5+3,none⟩=some lv'∧w'.cell? ⟨b,j*5+4,none⟩=some (.int .i64 t.elem)∧
       w'.cell? ⟨b0,off+j*5,none⟩=some (.int .i64 (-7))∧w'.cell? ⟨b0,off+j*5+1,none⟩=some (.int .u64 t.num)∧w'.cell? ⟨b0,off+j*5+2,none⟩=some (.string t.text)∧w'.cell? ⟨b0,off+j*5+3,none⟩=some lv0∧w'.cell? ⟨b0,off+j*5+4,none⟩=some (.int .i64 t.elem))
       (first
         |with_reducible exact HALL.out _ ((Apart.refl _ _ _).drew.trans hb2.out)
         |with_reducible exact HALL.out _ (Apart.refl _ _ _).drew)
       ((go_at_call 29;refine (HC.out _ (Below.refl _ _).drew).mono ?_;rintro r w2 ⟨rfl,hb2'⟩;have hb2:=Lib.hid hb2';clear hb2'))
      have hb3:=Lib.hid ((Apart.refl x y wr).drew.trans hb2.out)
      have fz:∀ o,w2.frozen? ⟨b,o,none⟩=false:=fun o=>(hb3.out.frozen (p:=⟨b,o,none⟩) (by show b<wr.heap.size;omega) (.inl hbx)).trans (HR.out.froz o)
      have y0:=fz (j*5)
      have y1:=fz (j*5+1)
      have y2:=fz (j*5+2)
      have y3:=fz (j*5+3)
      have y4:=fz (j*5+4)
      obtain ⟨_,x0,x1,x2,x3,x4,_⟩:=HALL.out w2 hb3.out
      clear fz HALL HC e0 e1 e2 e3 e4 g0 g1 g2 g3 g4 q0 q1 q2 q3 q4
      go_wp2
      go_roundw
      case rel=>exact ⟨j+1,rfl,by go_num,by omega,HST.out w2 hb3.out _ _ _ _ _⟩
      case measure=>simp [intOf];omega
     ·go_wp2
      go_region_held3 (fun w'=>Apart x y wr w'∧w'.cell? ⟨b,j*5,none⟩=some (.int .i64 kk)∧w'.cell? ⟨b,j*5+1,none⟩=some (.int .u64 t.num)∧w'.cell? ⟨b,j*5+2,none⟩=some (.string t.text)∧w'.cell? ⟨b,j*5+3,none⟩=some lv'∧w'.cell? ⟨b,j*5+4,none⟩=some (.int .i64 t.elem)∧
       w'.cell? ⟨b0,off+j*5,none⟩=some (.int .i64 kk)∧w'.cell? ⟨b0,off+j*5+1,none⟩=some (.int .u64 t.num)∧w'.cell? ⟨b0,off+j*5+2,none⟩=some (.string t.text)∧w'.cell? ⟨b0,off+j*5+3,none⟩=some lv0∧w'.cell? ⟨b0,off+j*5+4,none⟩=some (.int .i64 t.elem))
       (first
         |with_reducible exact HALL.out _ ((Apart.refl _ _ _).drew.trans hb2.out)
         |with_reducible exact HALL.out _ (Apart.refl _ _ _).drew)
       ((go_at_call 29;refine (HC.out _ (Below.refl _ _).drew).mono ?_;rintro r w2 ⟨rfl,hb2'⟩;have hb2:=Lib.hid hb2';clear hb2'))
      have hb3:=Lib.hid ((Apart.refl x y wr).drew.trans hb2.out)
      have fz:∀ o,w2.frozen? ⟨b,o,none⟩=false:=fun o=>(hb3.out.frozen (p:=⟨b,o,none⟩) (by show b<wr.heap.size;omega) (.inl hbx)).trans (HR.out.froz o)
      have y0:=fz (j*5)
      have y1:=fz (j*5+1)
      have y2:=fz (j*5+2)
      have y3:=fz (j*5+3)
      have y4:=fz (j*5+4)
      obtain ⟨_,x0,x1,x2,x3,x4,_⟩:=HALL.out w2 hb3.out
      clear fz HALL HC e0 e1 e2 e3 e4 g0 g1 g2 g3 g4 q0 q1 q2 q3 q4
      go_wp2
      go_roundw
      case rel=>exact ⟨j+1,rfl,by go_num,by omega,HST.out w2 hb3.out _ _ _ _ _⟩
      case measure=>simp [intOf];omega
    ·have hjn':¬((j:Int)<(n:Int)):=by omega
     have hmk:=HR.out.marks j (by rw [Hn.out];omega) (by rw [Hn.out];exact hlt) (Nat.le_refl _)
     have e0:wr.cell? ⟨b,j*5,none⟩=some (.int .i64 (-7)):=hmk.kind
     have e1:wr.cell? ⟨b,j*5+1,none⟩=some (.int .u64 j):=hmk.num
     have e2:wr.cell? ⟨b,j*5+2,none⟩=some (.string ⟨#[]⟩):=hmk.text
     have e3:wr.cell? ⟨b,j*5+3,none⟩=some (.slice none 0 0):=hmk.list
     have e4:wr.cell? ⟨b,j*5+4,none⟩=some (.int .i64 0):=hmk.elem
     clear hmk
     go_wp2
     go_roundw
     case rel=>exact ⟨j+1,rfl,by go_num,by omega,HR.out.mark (by rw [Hn.out];omega) (by rw [Hn.out];exact hlt) hlo hbh hhi _ _ _ _ _⟩
     case measure=>simp [intOf];omega
   ·obtain rfl:j=n+3:=by omega
    go_wp2
    go_ret
    exact ⟨rfl,HR.out.apart⟩
end Go.Proofs.YtfoiaiblggapeaaGreatDoor.Va
namespace Go.Proofs.YtfoiaiblggapeaaGreatDoor.Va
open Go Go.RowKit Go.ChangeShapes Go.WideShapes Go.Deep Go.CE Go.Proofs.Nu Go.Proofs.YtfoiaiblggapeaaGreatDoor.Nm
noncomputable def liveE:MemoE:={f:=7,args:=[],glob:=space,val:= .bool true}
theorem live_says:liveE.says Tryz.prog 7 1000000 []=true:=by kernel_rfl
theorem live_any {w:World} {t:TypeId} (hsp:w.heap[0]? =some (.cells (Lib.asciiSpaceTab.map fun z=>Value.int .u8 z).toArray t (0,0))):
 Calls Tryz.prog 7 #[] w fun e w'=>e= .returned (.bool true)∧Below w.heap.size w w':=
 calls_entry (memo_ok mixed noCount (memo_none _ _) live_says) (lies_tab (g:=0) (by decide) hsp)
section
variable {H:Type} {enc:TypeId×Value→H} {w:World} {base:Nat} {spare:Nat→Bool} {held:Bool}
end
theorem below_trodAll {H:Type} {enc:TypeId×Value→H} {P:Program} (hl:laidOutB P=true) {W W':World} (hb:Below W.heap.size W W'):
 ∀ {ts:List TypeId} {vs:List Value} {ds:List (DataW H)} {ps:List MemPlace},(∀ t∈ts,P.readableRec t=true∧t<P.types.size)→DataW.TrodAll enc P W 0 (fun _=>true) true ts vs ds ps→(∀ x∈ps,x.block<W.heap.size)→
   DataW.TrodAll enc P W' 0 (fun b=>decide (b<W.heap.size)) true ts vs ds ps
 |[],[],[],_,_,h,_=>h
 |[],[],_::_,_,_,h,_=>h.elim
 |[],_::_,_,_,_,h,_=>h.elim
 |_::_,[],_,_,_,h,_=>h.elim
 |_::_,_::_,[],_,_,h,_=>h.elim
 |t::ts,v::vs,d::ds,ps,ht,⟨p,q,h1,h2,e⟩,hlt=>by
  subst e
  exact ⟨p,q,Below.trod hl (ht t (by simp)).1 (ht t (by simp)).2 h1 hb (fun x hx=>hlt x (List.mem_append_left _ hx)),below_trodAll hl hb (fun x hx=>ht x (List.mem_cons_of_mem _ hx)) h2 (fun x hx=>hlt x (List.mem_append_right _ hx)),rfl⟩
theorem laidOut:laidOutB Tryz.prog=true:=by kernel_rfl
end Go.Proofs.YtfoiaiblggapeaaGreatDoor.Va
namespace Go.Proofs.YtfoiaiblggapeaaGreatDoor.Va
open Go Go.ChangeShapes Go.WideShapes Go.ChangeAt Go.RowKit Go.Proofs.Nu Go.Proofs.YtfoiaiblggapeaaGreatDoor.Uc
noncomputable def fieldsRc:Array Field:=match Tryz.prog.underlying 33 with|some (.struct fs)=>fs|_=>#[]
theorem underRc:Tryz.prog.underlying 33=some (.struct fieldsRc):=by kernel_rfl
theorem sizeRc:fieldsRc.size=2:=by kernel_rfl
theorem cellsRc:Tryz.prog.cellsOf 33=2:=by kernel_rfl
theorem fieldsRc_at:fieldsRc.toList.map (fun f=>(f.type,f.offset,Tryz.prog.cellsOf f.type))=[(3,0,1),(31,1,1)]:=by kernel_rfl
theorem field_genRc {fs:Array Field} {L:List (TypeId×Nat×Nat)} (h:fs.toList.map (fun f=>(f.type,f.offset,Tryz.prog.cellsOf f.type))=L) (j:Nat) (t o k:Nat) (hx:L[j]? =some (t,o,k)):∃ f:Field,fs[j]? =some f∧f.type=t∧f.offset=o∧Tryz.prog.cellsOf f.type=k:=by
 rw [←h,List.getElem?_map] at hx
 rw [Array.getElem?_toList] at hx
 cases hf:fs[j]? with
 |none=>rw [hf] at hx;cases hx
 |some f=>
  rw [hf] at hx
  simp only [Option.map_some,Option.some.injEq,Prod.mk.injEq] at hx
  exact ⟨f,rfl,hx.1,hx.2.1,hx.2.2⟩
section
variable {H:Type} {enc:TypeId×Value→H} {w:World} {base:Nat} {spare:Nat→Bool} {held:Bool}
set_option maxRecDepth 100000 in
theorem open_record {cs:List Value} {n:Nat} {x:DataW H×List MemPlace} (h:DataW.trod enc Tryz.prog w base spare held n 33 cs=some x) (hl:cs.length=2):
 ∃ (k:Int) (lv:Value) (ts:List VT) (N:Nat),cs=[.int .i64 k,lv]∧ -9223372036854775808≤k∧k≤9223372036854775807∧LAt w.heap.size w N lv ts:=by
 obtain ⟨ys,n',hn',hy,hlen,hyl,hf⟩:=DataW.trod_struct underRc h
 have one:∀ (j t o k:Nat),([(3,0,1),(31,1,1)]:List (TypeId×Nat×Nat))[j]? =some (t,o,k)→∃ y,DataW.trod enc Tryz.prog w base spare held n' t ((cs.drop o).take k)=some y:=by
  intro j t o k hx
  obtain ⟨f,hj,rfl,rfl,rfl⟩:=field_genRc fieldsRc_at j t o k hx
  have hjl:j<2:=by rw [←sizeRc];exact (Array.getElem?_eq_some_iff.1 hj).1
  exact ⟨_,(hf j f hj).trans (List.getElem?_eq_getElem (by rw [hyl,sizeRc];omega))⟩
 match cs,hl with
 |[a0,a1],_=>
  obtain ⟨y0,t0⟩:=one 0 3 0 1 rfl
  obtain ⟨y1,t1⟩:=one 1 31 1 1 rfl
  obtain ⟨k,h0,_,w0⟩:=DataW.trod_int Tryz.underlying3 (show DataW.trod enc Tryz.prog w base spare held n' 3 [a0]=some y0 from t0)
  obtain ⟨ts,hts⟩:=open_list (show DataW.trod enc Tryz.prog w base spare held n' 31 [a1]=some y1 from t1)
  simp only [List.cons.injEq,and_true] at h0
  subst h0
  obtain ⟨b0,b1⟩:=wf_i64 w0
  exact ⟨k,a1,ts,_,rfl,b0,b1,hts⟩
set_option maxRecDepth 100000 in
theorem open_argR {r:Reach} {b0:Nat} {v:Value} {d:DataW H} {p:List MemPlace} (hv:Value.okWide Tryz.prog w r b0 33 v) (h:DataW.Trod enc Tryz.prog w base spare held 33 v d p):∃ k lv ts N,v= .agg #[.int .i64 k,lv]∧ -9223372036854775808≤k∧k≤9223372036854775807∧LAt w.heap.size w N lv ts:=by
 obtain ⟨cs,rfl,hsz⟩:=okWide_struct underRc hv
 obtain ⟨fuel,hf⟩:=h
 have hl:cs.toList.length=2:=by rw [Array.length_toList,hsz];exact cellsRc
 obtain ⟨k,lv,ts,N,hcs,b0,b1,hl2⟩:=open_record hf hl
 have:cs= #[.int .i64 k,lv]:=Array.toList_inj.1 hcs
 exact ⟨k,lv,ts,N,by rw [this],b0,b1,hl2⟩
end
structure LentR (w:World) (N lo hi lb:Nat) (k:Int) (v:Value) (l:List VT):Prop where
 list:LentAt w N lo hi v l
 box:Box w lb [.int .i64 k,v]
 hi_le:hi≤w.heap.size
 lb_lt:lb<w.heap.size
 off:lb<lo∨hi≤lb
theorem LentR.below {w w':World} {N lo hi lb:Nat} {k:Int} {v:Value} {l:List VT} (h:LentR w N lo hi lb k v l) (hb:Below w.heap.size w w'):LentR w' N lo hi lb k v l:=
 ⟨h.list.below h.hi_le hb,h.box.below hb h.lb_lt,Nat.le_trans h.hi_le hb.size,Nat.lt_of_lt_of_le h.lb_lt hb.size,h.off⟩
end Go.Proofs.YtfoiaiblggapeaaGreatDoor.Va
