/-
  The texts Q5 Q6 L0 L1 L2 L3 of this claim, one behind the other.
-/
import Derived.Test.YtfoiaiblggapeaaGreatDoorZPUB8
import Derived.Test.YtfoiaiblggapeaaGreatDoorZPUB0
import Derived.Test.YtfoiaiblggapeaaGreatDoorZPUA0
import Derived.Laws.NewBlocks
import Derived.Laws.MakeOwn
import Derived.Deep.RegionHeld3
import Derived.Deep.DrawnRows
set_option maxHeartbeats 40000000
set_option maxRecDepth 100000
namespace Go.Proofs.YtfoiaiblggapeaaGreatDoor.Va
open Go Go.RowKit Nu Uc Fd Go.Proofs.YtfoiaiblggapeaaGreatDoor.Nm
attribute [-go_sem] Go.Instr.loadAt
theorem cell_put {v:World} {b o:Nat} {u:Value} (p:Option Addr) (n c:Nat) (hc:v.cell? ⟨b,o,none⟩=some u) (hf:v.frozen? ⟨b,o,none⟩=false):(Instr.storeAt 31 (.pointer (some ⟨b,o,none⟩)) (.slice p n c)).run Tryz.prog v= .ok () (v.setCell ⟨b,o,none⟩ (.slice p n c)):=by
 have:=Tryz.underlying31
 have:=Tryz.sizeOf31
 go_simp
attribute [-go_sem] Go.Instr.storeAt
theorem slice_put {v:World} {b:Nat} {k u:Value} (x:Box v b [k,u]) (p:Option Addr) (n c:Nat):∃ X,(Instr.storeAt 31 (.pointer (some ⟨b,1,none⟩)) (.slice p n c)).run Tryz.prog v= .ok () X∧Box X b [k,.slice p n c]∧v.grownBy X (some b)∧X.heap.size=v.heap.size:=by
 have h:=cell_put p n c (x.cell (j:=1) rfl) (x.froz (j:=1) (show 1<2 by decide))
 exact ⟨v.setCells b 1 [.slice p n c],h,x.set (vs:=[.slice p n c]) (o:=1) (show 1+1≤2 by decide) rfl (fun j u hu=>by
  match j,hu with
  |0,hu=>exact hu
  |j+1,hu=>simp at hu) (fun j hj=>by
  match j,hj with
  |0,_=>rfl
  |1,hj=>simp at hj
  |j+2,_=>rfl),setCells_grown b _ _ v,setCells_sz ..⟩
theorem itemG_ne {n:Nat} {f:FT} {y:VT} {e:Int} (h:itemG (readF n) f y= .error e):e≠0:=by
 unfold itemG at h
 split at h
 ·split at h
  ·cases h;decide
  ·cases h
 ·split at h
  ·cases h
  ·split at h
   ·exact readF_err n f y e h
   ·cases h;decide
theorem runpack_of {n:Nat} (hU:∀ m,n=m+1→RUn m∧RPk m):RUn n:=by
 intro P N t lv w hPw hE hft hl hrk hnd
 have hnd1:(nodes t+13)*2^n≤800000000:=by rw [Nat.pow_succ'] at hnd;have:=Nat.mul_le_mul_left (nodes t+13) (show 2^n≤2*2^n by omega);omega
 have hnd2:nodes t≤800000000:=by have:=Nat.le_mul_of_pos_right (nodes t+13) (Nat.two_pow_pos n);omega
 obtain ⟨p,c,rfl⟩:=hl.slice
 obtain ⟨W1,hW1⟩:∃ W1,(w.alloc (.cells #[.int .i64 t.kind,.int .u64 t.num,.string t.text,.slice p t.list.length c,.int .i64 t.elem] 42)).alloc (.cells #[.int .i64 0,.slice none 0 0] 33)=W1:=⟨_,rfl⟩
 obtain ⟨x1,x2,hz1,hb1⟩:=two_boxes (cs:=t.cells (.slice p t.list.length c)) (ds:=[.int .i64 0,.slice none 0 0]) hW1
 have l0:=wload_value x1.1
 have hl1:LAtP P W1 N (.slice p t.list.length c) t.list:=hl.below hb1
 have HCK:=Lib.hid (rcheck_raw t (.slice p t.list.length c) W1 hft hl1.lat (Nat.le_refl _) (by omega))
 have HKC:=Lib.hid (show ∀ v,Below W1.heap.size W1 v→Calls Tryz.prog 49 #[t.agg (.slice p t.list.length c)] v fun r w'=>r= .returned (kindAns (kindOf t))∧Below v.heap.size v w' from fun v h=>rkind_any (N:=N) (B:=v.heap.size) (d:=t) (v:=t.agg (.slice p t.list.length c)) (w:=v) ⟨hft,_,rfl,(hl1.below h).lat⟩ (Nat.le_refl _))
 have X1:=Lib.hid x1
 have X2:=Lib.hid x2
 have HB1:=Lib.hid hb1
 have HE1:=Lib.hid (hE.below hb1)
 have HL1:=Lib.hid hl1
 have HU:=Lib.hid hU
 have HP:=Lib.hid hPw
 have HND:=Lib.hid hnd1
 obtain ⟨R,hR⟩:∃ R,unR n t=R:=⟨_,rfl⟩
 have HR:=Lib.hid hR
 obtain ⟨o,ho⟩:∃ o,kindOf t=o:=⟨_,rfl⟩
 have HO:=Lib.hid ho
 obtain ⟨C,hC⟩:∃ C,checkT t 1=C:=⟨_,rfl⟩
 have HC:=Lib.hid hC
 rw [hR]
 rw [ho] at HKC hrk
 rw [hC] at HCK
 clear hR ho hl x1 x2 hb1 hE hU hnd hl1 hPw hC hnd1 hft
 go_enter Tryz.func27,Tryz.ntmps27
 go_wp2_with (fail)
 clear hW1 l0
 refine HCK.out.mono ?_
 rintro r w1 ⟨rfl,hb1⟩
 have HB11:=Lib.hid hb1
 have z1:W1.heap.size≤w1.heap.size:=hb1.size
 by_cases hC0:C=0
 case neg=>
  have hcb:(C !=0)=true:=by simp [hC0]
  have HE:Hid (R= .error (0,C)):=by
   show _=_
   rw [←HR.out]
   unfold unR
   rw [HC.out,if_pos hC0]
  obtain ⟨Xe,hse,hle,_,hbe,hze,_⟩:=rec_store (X2.out.below hb1 (by omega)) rfl 0 none 0 0
  have HLE:=Lib.hid hle
  have HBE:Hid (Below w.heap.size w Xe):=(HB1.out.trans (hb1.mono (by omega))).trans (hbe.mono (by omega))
  clear hle hbe hze hb1 hC0
  go_wp2
  exact bodyPost_ret_by (results_cell_tmp3 rfl rfl HLE.out rfl rfl) rfl (by rw [HE.out];exact ⟨HBE.out,rfl⟩)
 subst hC0
 have hrr:R=unpackG (readF n) t:=by
  rw [←HR.out]
  unfold unR
  rw [HC.out,if_neg (by simp)]
 have HR1:=Lib.hid hrr
 have l0:=wload_value (X1.out.below hb1 (by omega)).1
 clear hrr hb1 HCK
 go_wp2_with (fail)
 clear l0
 refine (HKC.out w1 HB11.out).mono ?_
 rintro r w2 ⟨rfl,hb2⟩
 have HB2:=Lib.hid (HB11.out.trans (hb2.mono z1))
 have z2:=hb2.size
 have hfk:=rfields_any (kNum o) w2
 unfold FieldsAns at hfk
 unfold kindAns
 obtain ⟨kn,hkn⟩:∃ kn,kNum o=kn:=⟨_,rfl⟩
 have HKN:=Lib.hid hkn
 rw [hkn] at hfk ⊢
 have HFK:=Lib.hid hfk
 obtain ⟨q,hq⟩:∃ q,o.isSome=q:=⟨_,rfl⟩
 rw [hq]
 have HQS:=Lib.hid hq
 clear hb2 hfk hq hkn HKC HB11
 go_wp2_with (fail)
 refine HFK.out.mono ?_
 rintro r w3 ⟨vf,rfl,hfo,hb3⟩
 have HBW3:=Lib.hid (HB2.out.trans (hb3.mono (by omega)))
 have HBW:=Lib.hid (HB1.out.trans (HBW3.out.mono (by omega)))
 have hX1:=X1.out.below HBW3.out (by omega)
 have HX2a:Hid (Box w3 (w.heap.size+1) [.int .i64 0,.slice none 0 0]):=X2.out.below HBW3.out (by omega)
 have HE3:=Lib.hid (HE1.out.below HBW3.out)
 have z3:w2.heap.size≤w3.heap.size:=hb3.size
 clear hb3 HB2 HFK
 obtain ⟨of,hof⟩:∃ of,fieldsT kn=of:=⟨_,rfl⟩
 have HOF:=Lib.hid hof
 rw [hof] at hfo ⊢
 clear hof
 cases of with
 |none=>
  rcases hfo with ⟨_,rfl⟩|⟨h,_⟩
  ·have HE:Hid (R= .error (0,70)):=by
    show _=_
    rw [HR1.out]
    refine unpackG_none ?_
    rw [HO.out]
    cases o with
    |none=>rfl
    |some k=>have h1:=HKN.out;have h2:=HOF.out;rw [←h1] at h2;exact h2
   obtain ⟨Xe,hse,hle,_,hbe,hze,_⟩:=rec_store HX2a.out rfl 0 none 0 0
   have HLE:=Lib.hid hle
   have HBE:Hid (Below w.heap.size w Xe):=HBW.out.trans (hbe.mono (by omega))
   clear hle hbe hze hX1
   go_wp2
   all_goals
    exact bodyPost_ret_by (results_cell_tmp3 rfl rfl HLE.out rfl rfl) rfl (by rw [HE.out];exact ⟨HBE.out,rfl⟩)
  ·exact absurd rfl h
 |some fs=>
  obtain ⟨k,rfl⟩:∃ k,o=some k:=by
   cases o with
   |none=>
    have h1:=HKN.out;have h2:=HOF.out;rw [←h1] at h2;have h3:fieldsT (kNum none)=none:=by decide
    rw [h3] at h2;cases h2
   |some k=>exact ⟨k,rfl⟩
  obtain rfl:k=kn:=HKN.out
  obtain rfl:true=q:=HQS.out
  obtain ⟨d,x,hdx⟩:=kindOf_two HO.out
  have hRR:=unpackG_eq (rd:=readF n) HO.out HOF.out hdx
  have hRR:R=_:=HR1.out.trans hRR
  have HRR:=Lib.hid hRR
  have hfl:=fieldsT_len HOF.out
  have HRK:Hid (rk k≤n):=hrk
  have hL:=HL1.out.below HBW3.out
  rw [hdx] at hL
  rw [hdx] at hX1
  have hxc:checkT x 2=0:=check_mem HC.out (by rw [hdx];simp)
  have HXC:=Lib.hid hxc
  cases N with
  |zero=>exact hL.elim
  |succ N=>
  rcases hL with ⟨h0,_⟩|⟨b,off,c',hp,_,hbB,_,hel⟩
  ·cases h0
  cases hp
  obtain ⟨xf,xlv,xat3,xl⟩:=hel 1 x rfl
  obtain ⟨q1,d1,rfl⟩:=xl.slice
  have e1:off+1*5=off+5:=by omega
  rw [e1] at xat3
  have l1:=wload_slice (hX1.cell (j:=3) rfl)
  have l2:=pload_int xat3.kind
  have l3:=wload_slice xat3.list
  have HXL:=Lib.hid xl
  have hFO:=hfo
  obtain ⟨fp,fc,rfl,hu⟩:=hFO.view
  have HFO:=Lib.hid hfo
  obtain ⟨m,hm⟩:∃ m,fs.length=m:=⟨_,rfl⟩
  have Hm:=Lib.hid hm
  have hnx:nodesL x.list+1≤nodes t:=by
   have h1:nodes x≤nodesL t.list:=nodesL_mem (by rw [hdx];simp)
   have:=nodes_eq t
   have:=nodes_eq x
   omega
  have HNX:=Lib.hid hnx
  have hgl:x.list.length≤900000000:=by
   have h1:=nodesL_len x.list
   omega
  obtain ⟨gn,hgn⟩:∃ gn,x.list.length=gn:=⟨_,rfl⟩
  have Hgn:=Lib.hid hgn
  simp only [Option.getD_some,Option.isSome_some] at HFO ⊢
  rw [hm] at HFO hfl ⊢
  rw [hgn] at l3 HXL hgl
  clear hfo hFO hu hm hgn hel hX1 xat3 xl hRR hdx hnx hxc hrk
  by_cases hx21:x.kind=21
  case neg=>
   have hne:(x.kind !=21)=true:=by simp [hx21]
   have HE:Hid (R= .error (0,70)):=HRR.out.trans (if_pos hx21)
   obtain ⟨Xe,hse,hle,_,hbe,hze,_⟩:=rec_store HX2a.out rfl 0 none 0 0
   have HLE:=Lib.hid hle
   have HBE:Hid (Below w.heap.size w Xe):=HBW.out.trans (hbe.mono (by omega))
   clear hle hbe hze
   go_wp2
   exact bodyPost_ret_by (results_cell_tmp3 rfl rfl HLE.out rfl rfl) rfl (by rw [HE.out];exact ⟨HBE.out,rfl⟩)
  have hne:(x.kind !=21)=false:=by simp [hx21]
  have HRR2:=Lib.hid (HRR.out.trans (if_neg (by simp [hx21])))
  by_cases hlen:m<gn
  ·have HE:Hid (R= .error (m,71)):=by rw [←Hm.out,←Hgn.out] at*;exact HRR2.out.trans (if_pos hlen)
   have hlt:decide ((gn:Int)>(m:Int))=true:=by simp;omega
   obtain ⟨Xe,hse,hle,_,hbe,hze,_⟩:=rec_store HX2a.out rfl 0 none 0 0
   have HLE:=Lib.hid hle
   have HBE:Hid (Below w.heap.size w Xe):=HBW.out.trans (hbe.mono (by omega))
   clear hle hbe hze
   go_wp2
   exact bodyPost_ret_by (results_cell_tmp3 rfl rfl HLE.out rfl rfl) rfl (by rw [HE.out];exact ⟨HBE.out,rfl⟩)
  have hlt:decide ((gn:Int)>(m:Int))=false:=by simp;omega
  have HRR3:=Lib.hid (HRR2.out.trans (if_neg (by have:=Hm.out;have:=Hgn.out;omega)))
  obtain ⟨W4,hW4⟩:∃ W4,w3.alloc (.cells #[.int .i64 0,.slice none 0 0] 33)=W4:=⟨_,rfl⟩
  obtain ⟨x4,hz4,hb4⟩:=one_box (cs:=[.int .i64 0,.slice none 0 0]) hW4
  obtain ⟨W5,hs5,_,bx5,hb5,hz5,_⟩:=rec_store x4 rfl k none 0 0
  have h35:Below w3.heap.size w3 W5:=hb4.trans hb5
  obtain ⟨rb,hrb⟩:∃ rb,w3.heap.size=rb:=⟨_,rfl⟩
  rw [hrb] at bx5 hs5
  have hz5':W5.heap.size=rb+1:=by omega
  have HBW5:=Lib.hid (HBW.out.trans (h35.mono (by omega)))
  have HRB0:=Lib.hid bx5
  have HX2:Hid (∀ v,Below rb W5 v→Box v (w.heap.size+1) [.int .i64 0,.slice none 0 0]):=fun v h=>(HX2a.out.below h35 (by omega)).below h (by omega)
  have HAL5:Hid (∀ v,Below rb W5 v→Env v∧FsOwn w2.heap.size w3.heap.size v (.slice fp m fc) fs∧LAtP P v N (.slice q1 gn d1) x.list):=fun v h=>by
   have h3:Below w3.heap.size w3 v:=h35.trans (h.mono (by omega))
   exact ⟨HE3.out.below h3,HFO.out.below h3,HXL.out.below h3⟩
  have HPR0:Hid (PRL W5.heap.size 42 (fun b=>P b∨W5.heap.size≤b) W5 [] (.slice none 0 0) W5):=PRL.start W5
  obtain ⟨i0,hi0,hi1,hi2,hi3⟩:=info_parts infoVV
  clear x4 hb4 hb5 h35 bx5 hz4 hz5
  go_wp2
  clear l1 l2 l3 hW4 hs5
  go_loopw [12] (fun iv wr=>∃ (j:Nat) (items:List (VT×Value)) (sp:Option Addr) (sc:Nat),iv= .int .i64 j∧j≤m∧items.length=j∧Hid (∀ (i:Nat) (f:FT) (z:VT),fs[i]? =some f→(items.map (·.1))[i]? =some z→itemG (readF n) f ((x.list[i]?).getD zeroT)= .ok z)∧Hid (Box wr rb [.int .i64 k,.slice sp j sc])∧Hid (PRL W5.heap.size 42 (fun b=>P b∨W5.heap.size≤b) wr items (.slice sp j sc) wr)∧Hid (Below rb W5 wr)) (fun iv _=>m-(intOf iv).toNat)
  case atStart=>exact ⟨0,[],none,0,rfl,Nat.zero_le _,rfl,(by show ∀ (i:Nat) (f:FT) (z:VT),_→_→_;intro i f z _ h;simp at h),HRB0.out,HPR0.out,Below.refl _ _⟩
  case round=>
   obtain ⟨j,items,sp,sc,rfl,hj,hlj,HI,HRB,HPR,HWR⟩:=hrel
   by_cases hltj:j<m
   ·obtain ⟨f,hf⟩:∃ f,fs[j]? =some f:=⟨_,List.getElem?_eq_getElem (by rw [Hm.out];exact hltj)⟩
    have HFI:=Lib.hid hf
    have hzr:=HPR.out.Bw
    obtain ⟨e1,e2,e3⟩:=HAL5.out wr HWR.out
    obtain ⟨qq,dd,e4,hv⟩:=e2.view
    obtain ⟨fb,foff,kv,rfl,hfb,⟨a0,a1,a2,a3,a4,a5,a6,a7,a8⟩,hkv⟩:=hv j f hf
    simp only [Value.slice.injEq] at e4
    obtain ⟨rfl, -, -⟩:=e4
    obtain ⟨kp,kc,rfl,hku⟩:=hkv.view
    have hcf:Cells wr fb (foff+j*9) (fcell f (.slice kp f.kinds.length kc)):=fun j u hu=>by
     match j,hu with
     |0,hu=>cases hu;exact a0
     |1,hu=>cases hu;exact a1
     |2,hu=>cases hu;exact a2
     |3,hu=>cases hu;exact a3
     |4,hu=>cases hu;exact a4
     |5,hu=>cases hu;exact a5
     |6,hu=>cases hu;exact a6
     |7,hu=>cases hu;exact a7
     |8,hu=>cases hu;exact a8
     |j+9,hu=>simp [fcell] at hu
    have hj0:(0:Int)≤(j:Int):=by omega
    have hj1:(j:Int)<(m:Int):=by omega
    have HLF:Hid (∀ v,Below wr.heap.size wr v→(Instr.loadAt 65 (.pointer (some ⟨fb,foff+j*9,none⟩))).run Tryz.prog v= .ok (fagg f (.slice kp f.kinds.length kc)) v):=fun v h=>pload_field fun j u hu=>(h.cell (p:=⟨fb,_,none⟩) hfb).trans (hcf j u hu)
    have HKL:Hid (f.kinds.length≤1000):=by
     obtain ⟨e,he,_,h2⟩:=fieldsT_mem HOF.out
     have:=(tab_len e he).2 f (by rw [h2];exact List.mem_of_getElem? hf)
     show _≤_
     omega
    have HLIT:=Lib.hid (field_lit HOF.out (List.mem_of_getElem? hf))
    have HAL:Hid (∀ v,Below wr.heap.size wr v→Env v∧KsOwn w2.heap.size w3.heap.size v (.slice kp f.kinds.length kc) f.kinds∧w2.heap.size≤v.heap.size):=fun v h=>⟨e1.below h,hkv.below h,by have:=h.size;omega⟩
    have HWR5:Hid (Below rb W5 wr):=HWR.out
    obtain ⟨Wa,hWa⟩:∃ Wa,wr.alloc (.cells #[.int .i64 0,.int .u64 0,.string ⟨#[]⟩,.slice none 0 0,.int .i64 0] 42)=Wa:=⟨_,rfl⟩
    obtain ⟨xa,hza,hba⟩:=one_box (cs:=zeroT.cells (.slice none 0 0)) hWa
    obtain ⟨Wb,hsta,xb,hbb0,hzb⟩:=val_box xa rfl zeroT none 0 0
    replace hsta:(Instr.storeAt 42 (.pointer (some ⟨wr.heap.size,0,none⟩)) (.agg #[.int .i64 0,.int .u64 0,.string ⟨#[]⟩,.slice none 0 0,.int .i64 0])).run Tryz.prog Wa= .ok () Wb:=hsta
    have hbb:Below wr.heap.size wr Wb:=hba.trans hbb0
    have hmx:j+1≤maxLen:=by unfold maxLen;omega
    have hmb:(j+1)*64≤140737488355328:=by omega
    have HXL':=Lib.hid e3
    clear hf hv hkv hku a0 a1 a2 a3 a4 a5 a6 a7 a8 hcf xa hba hbb0 e1 e2 e3
    by_cases hjg:j<gn
    case' pos=>
     obtain ⟨y,hy⟩:∃ y,x.list[j]? =some y:=⟨_,List.getElem?_eq_getElem (by have:=Hgn.out;omega)⟩
     have HYJ:Hid ((x.list[j]?).getD zeroT=y):=by show _=_;rw [hy];rfl
     have hLX:=HXL'.out
     obtain ⟨N2,rfl⟩:∃ N2,N=N2+1:=by
      cases N with
      |zero=>exact hLX.elim
      |succ N=>exact ⟨N,rfl⟩
     rcases hLX with ⟨h0,_⟩|⟨qb,qoff,c2,hp2,_,hqB,_,hel2⟩
     ·rw [h0] at hy;simp at hy
     rw [Hgn.out] at hp2
     cases hp2
     obtain ⟨yf,ylv,yat,yl⟩:=hel2 j y hy
     obtain ⟨yq,yd,rfl⟩:=yl.slice
     have hj2:decide ((j:Int)<(gn:Int))=true:=by simp;omega
     have hj3:(j:Int)<(gn:Int):=by omega
     have ly:=wload_value (at5_cells ((yat.below hbb hqB)))
     obtain ⟨V,hsv,yb,hbv0,hzv⟩:=val_box xb rfl y yq y.list.length yd
     have YB:=Lib.hid yb
     have YF:=Lib.hid yf
     obtain ⟨My,hMy⟩:∃ My,N2=My:=⟨_,rfl⟩
     have YL:Hid (LAtP P V My (.slice yq y.list.length yd) y.list):=by rw [←hMy];exact yl.below (hbb.trans hbv0)
     have HBV:Hid (Below wr.heap.size wr V):=hbb.trans hbv0
     have HZV:Hid (V.heap.size=wr.heap.size+1∧w.heap.size<V.heap.size):=⟨by omega,by have:=HBW5.out.size;omega⟩
     have hym:=List.mem_of_getElem? hy
     have HYC:Hid (checkT y 1=0):=check_mono y (d:=3) (by omega) (check_mem HXC.out hym)
     have HYN:Hid ((nodes y+13)*2^n≤800000000):=Nat.le_trans (Nat.mul_le_mul_right _ (by have:=nodesL_mem hym;have:=HNX.out;omega)) HND.out
     clear yf yat yl yb hbv0 hzv hy hel2 hbb xb hym
     go_wp2
     clear hWa hsta ly hsv
    case' neg=>
     have HYJ:Hid ((x.list[j]?).getD zeroT=zeroT):=by show _=_;rw [List.getElem?_eq_none (by have:=Hgn.out;omega)];rfl
     have hj2:decide ((j:Int)<(gn:Int))=false:=by simp;omega
     have HYC:Hid (checkT zeroT 1=0):=check_zero (by omega)
     have HYN:Hid ((nodes zeroT+13)*2^n≤800000000):=Nat.le_trans (Nat.mul_le_mul_right _ (by rw [nodes_zeroT];have:=HNX.out;omega)) HND.out
     have YB0:=Lib.hid xb
     have YL0:Hid (LAtP P Wb 1 (.slice none 0 0) zeroT.list):=LAtP.nil _ _ _
     have YF0:=Lib.hid zeroT_fine
     have HBV0:=Lib.hid hbb
     have HZV0:Hid (Wb.heap.size=wr.heap.size+1∧w.heap.size<Wb.heap.size):=⟨by omega,by have:=HBW5.out.size;omega⟩
     clear hbb xb
     go_wp2
     clear hWa hsta
     obtain ⟨V,hV⟩:∃ V,Wb=V:=⟨_,rfl⟩
     obtain ⟨y,hy⟩:∃ y,zeroT=y:=⟨_,rfl⟩
     obtain ⟨yq,hyq⟩:∃ yq:Option Addr,none=yq:=⟨_,rfl⟩
     obtain ⟨yd,hyd⟩:∃ yd:Nat,0=yd:=⟨_,rfl⟩
     obtain ⟨My,hMy⟩:∃ My:Nat,1=My:=⟨_,rfl⟩
     have YB:Hid (Box V wr.heap.size (y.cells (.slice yq y.list.length yd))):=by rw [←hV,←hy,←hyq,←hyd];exact YB0.out
     have YL:Hid (LAtP P V My (.slice yq y.list.length yd) y.list):=by rw [←hV,←hy,←hyq,←hyd,←hMy];exact YL0.out
     have YF:Hid y.Fine:=by rw [←hy];exact YF0.out
     rw [hV] at HBV0 HZV0 ⊢
     have HBV:=HBV0
     have HZV:=HZV0
     have HYJ2:Hid ((x.list[j]?).getD zeroT=y):=by show _=_;rw [HYJ.out,hy]
     rw [hy] at HYC HYN
     clear HYJ
     have HYJ:=HYJ2
     clear hV hy hyq hyd hMy YB0 YL0 YF0 HBV0 HZV0 HYJ2
    all_goals
     have hzV:wr.heap.size<V.heap.size:=by have:=HZV.out;omega
     have hD:Below V.heap.size V V.drew:=(Below.refl _ _).drew
     have hDA:Below V.heap.size V ((V.alloc (.cells #[.int .i64 0,.int .u64 0,.string ⟨#[]⟩,.slice none 0 0,.int .i64 0] 42)).drew):=((Below.refl _ _).alloc (Nat.le_refl _) _).drew
     obtain ⟨xA0,hzA0,_⟩:=one_box (w:=V) (cs:=zeroT.cells (.slice none 0 0)) (T:=42) rfl
     have hzA:((V.alloc (.cells #[.int .i64 0,.int .u64 0,.string ⟨#[]⟩,.slice none 0 0,.int .i64 0] 42)).drew).heap.size=V.heap.size+1:=hzA0
     have xA:Box ((V.alloc (.cells #[.int .i64 0,.int .u64 0,.string ⟨#[]⟩,.slice none 0 0,.int .i64 0] 42)).drew) V.heap.size (zeroT.cells (.slice none 0 0)):=xA0.heap rfl
     clear xA0 hzA0
     have HLX:Hid (∀ v,Below V.heap.size V v→(Instr.loadAt 65 (.pointer (some ⟨fb,foff+j*9,none⟩))).run Tryz.prog v= .ok (fagg f (.slice kp f.kinds.length kc)) v∧(Instr.loadAt 42 (.pointer (some ⟨wr.heap.size,0,none⟩))).run Tryz.prog v= .ok (y.agg (.slice yq y.list.length yd)) v):=fun v h=>
      ⟨HLF.out v (HBV.out.trans (h.mono (by omega))),wload_value (YB.out.below h hzV).1⟩
     obtain ⟨a,ha⟩:∃ a,itemG (readF n) f y=a:=⟨_,rfl⟩
     have HIT:Hid (∀ v,Below V.heap.size V v→Calls Tryz.prog 50 #[fagg f (.slice kp f.kinds.length kc),y.agg (.slice yq y.list.length yd)] v fun r w'=>RItAns P a (y.agg (.slice yq y.list.length yd)) v r w'):=fun v h=>by
      have hbv:=HBV.out.trans (h.mono (by omega))
      obtain ⟨e1,e2,e3⟩:=HAL.out v hbv
      have:=unpacked_any (n:=n) (N:=My) (P:=P) HU.out f (.slice kp f.kinds.length kc) y (.slice yq y.list.length yd) v (fun b hb=>by have:=HP.out b hb;have:=HBW.out.size;have:=HWR.out.size;have:=hbv.size;omega) e1 e2 HKL.out HLIT.out YF.out (YL.out.below h) HYC.out (fun h1 h2=>Nat.lt_of_lt_of_le (wanted_rk HOF.out (List.mem_of_getElem? HFI.out) h1 h2) HRK.out) HYN.out
      rw [ha] at this
      exact this
     have HAA:=Lib.hid ha
     clear ha
     cases a with
     |error e=>
      go_region_held3 (fun v=>(Instr.loadAt 65 (.pointer (some ⟨fb,foff+j*9,none⟩))).run Tryz.prog v= .ok (fagg f (.slice kp f.kinds.length kc)) v∧(Instr.loadAt 42 (.pointer (some ⟨wr.heap.size,0,none⟩))).run Tryz.prog v= .ok (y.agg (.slice yq y.list.length yd)) v)
       (first
         |with_reducible exact hv8
         |with_reducible exact hv7
         |with_reducible exact hv6
         |with_reducible exact HLX.out _ hDA
         |with_reducible exact HLX.out _ hD)
       ((go_at_call 50
         go_must (
         first
          |(refine (HIT.out V.drew hD).mono ?_
            rintro r w6 ⟨hb6',hans⟩
            have hb6:Below V.heap.size V w6:=hD.trans hb6'
            subst hans;have yl6:=YL.out.below hb6;obtain ⟨M6,hM6⟩:∃ M6,My=M6:=⟨_,rfl⟩;rw [hM6] at yl6;replace yl6:=yl6.weak (Q:=fun b=>P b∨V.heap.size≤b) (fun b hb _=> .inl hb);clear hM6
            have hz6:=hb6.size
            obtain ⟨x7,hz7,hb7⟩:=one_box (w:=w6) (cs:=zeroT.cells (.slice none 0 0)) (T:=42) rfl
            have h7:Below V.heap.size V (w6.alloc (.cells #[.int .i64 0,.int .u64 0,.string ⟨#[]⟩,.slice none 0 0,.int .i64 0] 42)):=hb6.trans (hb7.mono hz6)
            have hv6:=HLX.out _ hb6
            have hv7:=HLX.out _ h7
            obtain ⟨X8,hst8,x8,hb8,hz8⟩:=val_box x7 rfl y yq y.list.length yd
            have hsm8:=val_same x7 rfl y yq y.list.length yd hst8
            have hst8':(Instr.storeAt 42 (.pointer (some ⟨w6.heap.size,0,none⟩)) (.agg #[.int .i64 y.kind,.int .u64 y.num,.string y.text,.slice yq y.list.length yd,.int .i64 y.elem])).run Tryz.prog (w6.alloc (.cells #[.int .i64 0,.int .u64 0,.string ⟨#[]⟩,.slice none 0 0,.int .i64 0] 42))= .ok () X8:=hst8
            have h8:Below V.heap.size V X8:=h7.trans (hb8.mono hz6)
            have hv8:=HLX.out _ h8
            have ld8:=wload_value x8.1
            have HL8:Hid (LAtP (fun b=>P b∨V.heap.size≤b) X8 M6 (.slice yq y.list.length yd) y.list):=(((yl6.weak (Q:=fun b=>(P b∨V.heap.size≤b)∧b<w6.heap.size) fun b hb hlt=>⟨hb,hlt⟩).below hb7).heap (w':=X8) (by omega) fun b hb _=>hsm8 b (by omega)).weak fun b hb _=>hb.1
            have H8:=Lib.hid h8
            clear h8 hb8 h7 hz7 hb7 x7 x8 hz8 hsm8 hb6 hb6' yl6 hst8)
          |(refine (HIT.out ((V.alloc (.cells #[.int .i64 0,.int .u64 0,.string ⟨#[]⟩,.slice none 0 0,.int .i64 0] 42)).drew) hDA).mono ?_
            rintro r w6 ⟨hb6',hans⟩
            have hb6:Below V.heap.size V w6:=hDA.trans (hb6'.mono hDA.size)
            subst hans;have yl6:=YL.out.below hb6;obtain ⟨M6,hM6⟩:∃ M6,My=M6:=⟨_,rfl⟩;rw [hM6] at yl6;replace yl6:=yl6.weak (Q:=fun b=>P b∨V.heap.size+1≤b) (fun b hb _=> .inl hb);clear hM6
            have hz6:V.heap.size+1≤w6.heap.size:=by have:=hb6'.size;omega
            have x7:=xA.below hb6' (by omega)
            have hv6:=HLX.out _ hb6
            obtain ⟨X8,hst8,x8,hb8,hz8⟩:=val_box x7 rfl y yq y.list.length yd
            have hsm8:=val_same x7 rfl y yq y.list.length yd hst8
            have hst8':(Instr.storeAt 42 (.pointer (some ⟨V.heap.size,0,none⟩)) (.agg #[.int .i64 y.kind,.int .u64 y.num,.string y.text,.slice yq y.list.length yd,.int .i64 y.elem])).run Tryz.prog w6= .ok () X8:=hst8
            have h8:Below V.heap.size V X8:=hb6.trans hb8
            have hv8:=HLX.out _ h8
            have ld8:=wload_value x8.1
            have HL8:Hid (LAtP (fun b=>P b∨V.heap.size≤b) X8 M6 (.slice yq y.list.length yd) y.list):=(yl6.heap (w':=X8) (by omega) fun b hb _=>hsm8 b (by rcases hb with h|h;have:=HP.out b h;have:=HZV.out;omega;omega)).weak fun b hb _=>hb.elim .inl fun h=> .inr (by omega)
            have H8:=Lib.hid h8
            clear h8 hb8 x7 x8 hz8 hsm8 hb6 hb6' yl6 hst8))))
      all_goals
       have hne:e≠0:=itemG_ne HAA.out
       have hee:(e !=0)=true:=by simp [hne]
       have hzs:=H8.out.size
       have HW8:Hid (Below rb W5 X8):=HWR5.out.trans ((HBV.out.trans (H8.out.mono (by omega))).mono (by have:=HWR5.out.size;omega))
       obtain ⟨Xe,hse,hle,_,hbe,hze,_⟩:=rec_store (HX2.out X8 HW8.out) rfl 0 none 0 0
       have HE:Hid (R= .error (j,e)):=HRR3.out.trans (by rw [items_fault (ys:=items.map (·.1)) (by simp [hlj]) HI.out HFI.out (by rw [HYJ.out];exact HAA.out)])
       have HLE:=Lib.hid hle
       have HBE:Hid (Below w.heap.size w Xe):=(HBW5.out.trans (HW8.out.mono (by have:=HBW5.out.size;omega))).trans (hbe.mono (by omega))
       clear hle hbe hze ld8 hv8 hne
       go_wp2
       exact bodyPost_ret_by (results_cell_tmp3 rfl rfl HLE.out rfl rfl) rfl (by rw [HE.out];exact ⟨HBE.out,rfl⟩)
     |ok u=>
      go_region_held3 (fun v=>(Instr.loadAt 65 (.pointer (some ⟨fb,foff+j*9,none⟩))).run Tryz.prog v= .ok (fagg f (.slice kp f.kinds.length kc)) v∧(Instr.loadAt 42 (.pointer (some ⟨wr.heap.size,0,none⟩))).run Tryz.prog v= .ok (y.agg (.slice yq y.list.length yd)) v)
       (first
         |with_reducible exact hv8
         |with_reducible exact hv7
         |with_reducible exact hv6
         |with_reducible exact HLX.out _ hDA
         |with_reducible exact HLX.out _ hD)
       ((go_at_call 50
         go_must (
         first
          |(refine (HIT.out V.drew hD).mono ?_
            rintro r w6 ⟨hb6',hans⟩
            have hb6:Below V.heap.size V w6:=hD.trans hb6'
            obtain ⟨lv6,M6,rfl,uf6,yl6⟩:=hans;obtain ⟨q6,c6,rfl⟩:=yl6.slice;have UF6:=Lib.hid uf6;clear uf6
            have hz6:=hb6.size
            obtain ⟨x7,hz7,hb7⟩:=one_box (w:=w6) (cs:=zeroT.cells (.slice none 0 0)) (T:=42) rfl
            have h7:Below V.heap.size V (w6.alloc (.cells #[.int .i64 0,.int .u64 0,.string ⟨#[]⟩,.slice none 0 0,.int .i64 0] 42)):=hb6.trans (hb7.mono hz6)
            have hv6:=HLX.out _ hb6
            have hv7:=HLX.out _ h7
            obtain ⟨X8,hst8,x8,hb8,hz8⟩:=val_box x7 rfl u q6 u.list.length c6
            have hsm8:=val_same x7 rfl u q6 u.list.length c6 hst8
            have hst8':(Instr.storeAt 42 (.pointer (some ⟨w6.heap.size,0,none⟩)) (.agg #[.int .i64 u.kind,.int .u64 u.num,.string u.text,.slice q6 u.list.length c6,.int .i64 u.elem])).run Tryz.prog (w6.alloc (.cells #[.int .i64 0,.int .u64 0,.string ⟨#[]⟩,.slice none 0 0,.int .i64 0] 42))= .ok () X8:=hst8
            have h8:Below V.heap.size V X8:=h7.trans (hb8.mono hz6)
            have hv8:=HLX.out _ h8
            have ld8:=wload_value x8.1
            have HL8:Hid (LAtP (fun b=>P b∨V.heap.size≤b) X8 M6 (.slice q6 u.list.length c6) u.list):=(((yl6.weak (Q:=fun b=>(P b∨V.heap.size≤b)∧b<w6.heap.size) fun b hb hlt=>⟨hb,hlt⟩).below hb7).heap (w':=X8) (by omega) fun b hb _=>hsm8 b (by omega)).weak fun b hb _=>hb.1
            have H8:=Lib.hid h8
            clear h8 hb8 h7 hz7 hb7 x7 x8 hz8 hsm8 hb6 hb6' yl6 hst8)
          |(refine (HIT.out ((V.alloc (.cells #[.int .i64 0,.int .u64 0,.string ⟨#[]⟩,.slice none 0 0,.int .i64 0] 42)).drew) hDA).mono ?_
            rintro r w6 ⟨hb6',hans⟩
            have hb6:Below V.heap.size V w6:=hDA.trans (hb6'.mono hDA.size)
            obtain ⟨lv6,M6,rfl,uf6,yl6⟩:=hans;obtain ⟨q6,c6,rfl⟩:=yl6.slice;have UF6:=Lib.hid uf6;clear uf6
            have hz6:V.heap.size+1≤w6.heap.size:=by have:=hb6'.size;omega
            have x7:=xA.below hb6' (by omega)
            have hv6:=HLX.out _ hb6
            obtain ⟨X8,hst8,x8,hb8,hz8⟩:=val_box x7 rfl u q6 u.list.length c6
            have hsm8:=val_same x7 rfl u q6 u.list.length c6 hst8
            have hst8':(Instr.storeAt 42 (.pointer (some ⟨V.heap.size,0,none⟩)) (.agg #[.int .i64 u.kind,.int .u64 u.num,.string u.text,.slice q6 u.list.length c6,.int .i64 u.elem])).run Tryz.prog w6= .ok () X8:=hst8
            have h8:Below V.heap.size V X8:=hb6.trans hb8
            have hv8:=HLX.out _ h8
            have ld8:=wload_value x8.1
            have HL8:Hid (LAtP (fun b=>P b∨V.heap.size≤b) X8 M6 (.slice q6 u.list.length c6) u.list):=(yl6.heap (w':=X8) (by omega) fun b hb _=>hsm8 b (by rcases hb with h|h;have:=HP.out b h;have:=HZV.out;omega;omega)).weak fun b hb _=>hb.elim .inl fun h=> .inr (by omega)
            have H8:=Lib.hid h8
            clear h8 hb8 x7 x8 hz8 hsm8 hb6 hb6' yl6 hst8))))
      all_goals
       have hzs:=H8.out.size
       have HW8:Hid (Below rb W5 X8):=HWR5.out.trans ((HBV.out.trans (H8.out.mono (by omega))).mono (by have:=HWR5.out.size;omega))
       have HB8:Hid (Below wr.heap.size wr X8):=HBV.out.trans (H8.out.mono (by omega))
       have RB8:=Lib.hid (HRB.out.below HB8.out (by have:=HPR.out.Bw;omega))
       have l9:=wload_slice (RB8.out.cell (j:=1) rfl)
       have zc:Below X8.heap.size X8 (X8.alloc (.cells #[.int .i64 u.kind,.int .u64 u.num,.string u.text,.slice q6 u.list.length c6,.int .i64 u.elem] 42)):=(Below.refl _ _).alloc (Nat.le_refl _) _
       have hPA:=(HPR.out.keep HB8.out).keep zc
       have HPA:=Lib.hid hPA
       have hrow:=hPA.row;rw [hlj] at hrow
       have hBV:=hPA.Bw
       have HZC:=Lib.hid zc
       have HUA:Hid (LAtP (fun b=>(P b∨W5.heap.size≤b)∧(Value.slice sp j sc).ownBlock≠some b) (X8.alloc (.cells #[.int .i64 u.kind,.int .u64 u.num,.string u.text,.slice q6 u.list.length c6,.int .i64 u.elem] 42)) M6 (.slice q6 u.list.length c6) u.list):=
        hPA.away (lo:=V.heap.size) (HL8.out.below zc) (fun b hb _=>by
         rcases hb with h|h
         ·exact ⟨.inl h,.inl (by have:=HP.out b h;have:=HBW5.out.size;omega)⟩
         ·exact ⟨.inr (by have:=HPR.out.Bw;omega),.inr h⟩) (fun b hb=>by have:=(HPR.out.rowBlk hb).2;omega)
       clear zc hPA hv8
       go_wp2_with (at_builtin;go_must (refine wpList_append_own_at _ rfl _ _ 31 rfl W5.heap.size 42 i0 _ 5 64 Tryz.underlying31 hi0 hi1 hi2 hi3 rfl (by decide) (.slice sp j sc) j (cellsL items) rfl hrow ⟨X8.heap.size,0,none⟩ 1 1 (u.cells (.slice q6 u.list.length c6)) rfl rfl (vt_new X8 _ _ _) (vt_one _ _ _ _) hmx hmb hBV ?_;intro v' w7 hown7 hgrow7 hnil7 hat7;rw [←hlj] at hown7;have hP7:=HPA.out.push (x:=(u,.slice q6 u.list.length c6)) UF6.out HUA.out hown7 hgrow7 hat7;obtain ⟨sp7,sc7,e7⟩:=hP7.form;rw [List.length_append,hlj] at e7;subst e7;have rb7:Box w7 rb [.int .i64 k,.slice sp j sc]:=(RB8.out.below HZC.out (by have:=HB8.out.size;have:=HPR.out.Bw;omega)).heap (hgrow7.block rb (by have:=HB8.out.size;have:=HPR.out.Bw;have:=HZC.out.size;omega) (fun e=>by have:=(HPR.out.rowBlk e.symm).1;omega));obtain ⟨X9,hst9,x9,hg9,hz9⟩:=slice_put rb7 sp7 (j+1) sc7;have hP9:=hP7.aside hg9 (by omega) (by rintro (h|h);have:=HP.out _ h;have:=HBW5.out.size;omega;omega);have HB9:Hid (Below rb wr X9):=(((HB8.out.trans (HZC.out.mono HB8.out.size)).mono (by have:=HPR.out.Bw;omega)).grown hgrow7 (by have:=HB8.out.size;have:=HZC.out.size;have:=HPR.out.Bw;omega) (fun b e=>by have:=(HPR.out.rowBlk e).1;omega)).grown hg9 (by have:=HB8.out.size;have:=HZC.out.size;have:=HPR.out.Bw;have:=hgrow7.size;omega) (fun b e=>by cases e;omega);have HP9:=Lib.hid hP9;have X9b:=Lib.hid x9;clear hP7 hP9 x9 hg9 hz9 rb7 hown7 hgrow7 hnil7 hat7))
       have hll:(items++[((u,.slice q6 u.list.length c6):VT×Value)]).length=j+1:=by simp [hlj]
       have HI9:Hid (∀ (i:Nat) (f:FT) (z:VT),fs[i]? =some f→((items++[((u,.slice q6 u.list.length c6):VT×Value)]).map (·.1))[i]? =some z→itemG (readF n) f ((x.list[i]?).getD zeroT)= .ok z):=by
        have:=items_push (ys:=items.map (·.1)) (by simp [hlj]) HI.out HFI.out (by rw [HYJ.out];exact HAA.out)
        show ∀ (i:Nat) (f:FT) (z:VT),_→_→_
        intro i f' z h1 h2
        rw [List.map_append] at h2
        exact this i f' z h1 h2
       have HR9:Hid (Below rb W5 X9):=HWR.out.trans HB9.out
       have HLL:=Lib.hid hll
       clear hll hrow hBV
       go_roundw
       case rel=>exact ⟨j+1,_,sp7,sc7,by go_num,by omega,HLL.out,HI9.out,X9b.out,HP9.out.here,HR9.out⟩
       case measure=>simp [intOf];omega
   ·obtain rfl:j=m:=by omega
    have HE:Hid (R= .ok (k,items.map (·.1))):=HRR3.out.trans (by rw [itemsG_of (by rw [List.length_map,hlj,Hm.out]) HI.out])
    have l9:=pload_rec HRB.out
    obtain ⟨Xe,hse,hle,_,hbe,hze,hsme⟩:=rec_store (HX2.out wr HWR.out) rfl k sp j sc
    have HLE:=Lib.hid hle
    have HBE:Hid (Below w.heap.size w Xe):=(HBW5.out.trans (HWR.out.mono (by have:=HBW.out.size;omega))).trans (hbe.mono (by omega))
    have HLA:Hid (∃ M,LAtP (fun b=>P b∨w.heap.size≤b) Xe M (.slice sp j sc) (items.map (·.1))):=by
     obtain ⟨M,hM⟩:=HPR.out.lat (fun b h=> .inr h) (by unfold maxLen;omega)
     refine ⟨M,(hM.heap (w':=Xe) (by omega) fun b hb _=>hsme b ?_).weak fun b hb _=>?_⟩
     ·rcases hb with h|h
      ·have:=HP.out b h;omega
      ·have:=HBW.out.size;omega
     ·rcases hb with h|h
      ·exact .inl h
      ·exact .inr (by have:=HBW5.out.size;omega)
    clear hle hbe hze hsme
    go_wp2
    exact bodyPost_ret_by (results_cell_tmp3 rfl rfl HLE.out rfl rfl) rfl (by
     obtain ⟨M,hM⟩:=HLA.out
     rw [HE.out]
     exact ⟨HBE.out,_,M,rfl,hM⟩)
theorem rref_any:∀ n,RUn n∧RPk n
 |0=>⟨runpack_of fun m h=>by omega,packed_of fun m h=>by omega⟩
 |n+1=>⟨runpack_of fun m h=>by obtain rfl:n=m:=by omega
                               exact rref_any n,packed_of fun m h=>by obtain rfl:n=m:=by omega
                                                                      exact rref_any n⟩
end Go.Proofs.YtfoiaiblggapeaaGreatDoor.Va
namespace Go.Proofs.YtfoiaiblggapeaaGreatDoor.Va
open Go Go.RowKit Nu Uc Fd Go.Proofs.YtfoiaiblggapeaaGreatDoor.Nm
attribute [-go_sem] Go.Instr.loadAt Go.Instr.storeAt
theorem rrecCheck_any {N:Nat} {P:Nat→Prop} (k:Int) (l:List VT) (lv:Value) (w:World) (hPw:∀ b,P b→b<w.heap.size) (hE:Env w) (hl:LAtP P w N lv l) (hnd:(nodesL l+13)*2^3≤800000000):
 Calls Tryz.prog 17 #[.agg #[.int .i64 k,lv]] w fun r w'=>r= .returned (.int .i64 (recC (readF 3) (packF 3) k l))∧Below w.heap.size w w':=by
 obtain ⟨p,c,rfl⟩:=hl.slice
 obtain ⟨W1,hW1⟩:∃ W1,w.alloc (.cells #[.int .i64 k,.slice p l.length c] 33)=W1:=⟨_,rfl⟩
 obtain ⟨x1,hz1,hb1⟩:=one_box (cs:=[.int .i64 k,.slice p l.length c]) hW1
 have l0:=pload_int (x1.cell (j:=0) rfl)
 have X1:=Lib.hid x1
 have HB1:=Lib.hid hb1
 have HE1:=Lib.hid (hE.below hb1)
 have HL:=Lib.hid hl
 have HND:=Lib.hid hnd
 have HP:=Lib.hid hPw
 have hfk:=rfields_any k W1
 unfold FieldsAns at hfk
 obtain ⟨R,hR⟩:∃ R,recC (readF 3) (packF 3) k l=R:=⟨_,rfl⟩
 obtain ⟨of,hof⟩:∃ of,fieldsT k=of:=⟨_,rfl⟩
 have HOF:=Lib.hid hof
 have HR:Hid (R=recOf k l of):=by
  show R=_
  rw [←hR,←hof];exact recC_of k l
 rw [hof] at hfk
 rw [hR]
 have HFK:=Lib.hid hfk
 clear hl x1 hb1 hE hnd hfk hR hPw
 go_enter Tryz.func17,Tryz.ntmps17
 go_wp2_with (fail)
 clear hW1 l0
 refine HFK.out.mono ?_
 rintro r w2 ⟨vf,rfl,hfo,hb2⟩
 have z2:=hb2.size
 have X1b:=Lib.hid (X1.out.below hb2 (by omega))
 have HB2:=Lib.hid (HB1.out.trans (hb2.mono (by omega)))
 have HE2:=Lib.hid (HE1.out.below hb2)
 clear hb2
 cases of with
 |none=>
  have HRE:Hid (R=70):=HR.out
  rcases hfo with ⟨_,rfl⟩|⟨h,_⟩
  ·go_wp2
   go_ret
   exact ⟨pint HRE.out.symm,HB2.out⟩
  ·exact absurd rfl h
 |some fs=>
  have HRR:Hid (R=if l.length≠fs.length then 71 else if fieldsC (readF 3) fs l≠0 then fieldsC (readF 3) fs l else if 32<depthT (packF 3 k l) then 26 else 0):=HR.out
  have hfo':FsOwn W1.heap.size w2.heap.size w2 vf fs:=hfo
  obtain ⟨fp,fc,rfl,hu⟩:=hfo'.view
  have HFO:Hid (FsOwn W1.heap.size w2.heap.size w2 (.slice fp fs.length fc) fs):=hfo'
  have hfl:=fieldsT_len HOF.out
  obtain ⟨m,hm⟩:∃ m,fs.length=m:=⟨_,rfl⟩
  obtain ⟨g,hg⟩:∃ g,l.length=g:=⟨_,rfl⟩
  have Hm:=Lib.hid hm
  have Hg:=Lib.hid hg
  have hgl:g≤900000000:=by
   have h1:=nodesL_len l
   have:=HND.out
   omega
  simp only [Option.isSome_some]
  rw [hm] at HFO hfl ⊢
  rw [hg] at X1 X1b HL
  have l2:=wload_slice (X1b.out.cell (j:=1) rfl)
  clear hfo hfo' hu hm hg HR
  by_cases hne:g=m
  case neg=>
   have HRE:Hid (R=71):=HRR.out.trans (if_pos (by rw [Hm.out,Hg.out];exact hne))
   have hnb:((g:Int)!=(m:Int))=true:=by simp;omega
   clear hne
   go_wp2
   go_ret
   exact ⟨pint HRE.out.symm,HB2.out⟩
  subst hne
  have HR2:=Lib.hid (HRR.out.trans (if_neg (by rw [Hm.out,Hg.out];simp)))
  go_wp2
  clear l2
  go_loopw [5] (fun iv wr=>∃ j:Nat,iv= .int .i64 j∧j≤g∧Hid (fieldsC (readF 3) fs l=fieldsC (readF 3) (fs.drop j) (l.drop j))∧Hid (Below w2.heap.size w2 wr)) (fun iv _=>g-(intOf iv).toNat)
  case atStart=>exact ⟨0,rfl,Nat.zero_le _,(by show fieldsC _ _ _=_;simp),Below.refl _ _⟩
  case round=>
   obtain ⟨j,rfl,hj,HJ,HBR⟩:=hrel
   by_cases hltj:j<g
   ·obtain ⟨x,hx⟩:∃ x,l[j]? =some x:=⟨_,List.getElem?_eq_getElem (by rw [Hg.out];exact hltj)⟩
    obtain ⟨f,hf⟩:∃ f,fs[j]? =some f:=⟨_,List.getElem?_eq_getElem (by rw [Hm.out];exact hltj)⟩
    have hbw:Below w.heap.size w wr:=HB2.out.trans (HBR.out.mono (by have:=HB2.out.size;omega))
    have hLr:=HL.out.below hbw
    cases N with
    |zero=>exact hLr.elim
    |succ N=>
    rcases hLr with ⟨h0,_⟩|⟨b,off,c',hp,_,hbB,_,hel⟩
    ·exfalso;have:=Hg.out;rw [h0] at this;simp at this;omega
    rw [Hg.out] at hp
    cases hp
    obtain ⟨xf,xlv,xat,xl⟩:=hel j x hx
    obtain ⟨xq,xd,rfl⟩:=xl.slice
    obtain ⟨q1,d1,e1,hv⟩:=(HFO.out.below HBR.out).view
    obtain ⟨fb,foff,kv,rfl,hfb,⟨a0,a1,a2,a3,a4,a5,a6,a7,a8⟩,hkv⟩:=hv j f hf
    simp only [Value.slice.injEq] at e1
    obtain ⟨rfl, -, -⟩:=e1
    obtain ⟨kp,kc,rfl,hku⟩:=hkv.view
    have hcf:Cells wr fb (foff+j*9) (fcell f (.slice kp f.kinds.length kc)):=fun j u hu=>by
     match j,hu with
     |0,hu=>cases hu;exact a0
     |1,hu=>cases hu;exact a1
     |2,hu=>cases hu;exact a2
     |3,hu=>cases hu;exact a3
     |4,hu=>cases hu;exact a4
     |5,hu=>cases hu;exact a5
     |6,hu=>cases hu;exact a6
     |7,hu=>cases hu;exact a7
     |8,hu=>cases hu;exact a8
     |j+9,hu=>simp [fcell] at hu
    have hj0:(0:Int)≤(j:Int):=by omega
    have hj1:(j:Int)<(g:Int):=by omega
    have hnx:nodes x≤nodesL l:=nodesL_mem (List.mem_of_getElem? hx)
    have hkl:f.kinds.length≤1000:=by
     obtain ⟨e,he,_,h2⟩:=fieldsT_mem HOF.out
     have:=(tab_len e he).2 f (by rw [h2];exact List.mem_of_getElem? hf)
     omega
    have hzr:=HBR.out.size
    have hzw:=HB2.out.size
    have HLF:Hid (∀ v,Below wr.heap.size wr v→(Instr.loadAt 65 (.pointer (some ⟨fb,foff+j*9,none⟩))).run Tryz.prog v= .ok (fagg f (.slice kp f.kinds.length kc)) v∧(Instr.loadAt 31 (.pointer (some ⟨w.heap.size,1,none⟩))).run Tryz.prog v= .ok (.slice (some ⟨b,off,none⟩) g c) v∧(Instr.loadAt 42 (.pointer (some ⟨b,off+j*5,none⟩))).run Tryz.prog v= .ok (x.agg (.slice xq x.list.length xd)) v):=fun v h=>by
     have hc:Cells v fb (foff+j*9) (fcell f (.slice kp f.kinds.length kc)):=fun j u hu=>(h.cell (p:=⟨fb,_,none⟩) hfb).trans (hcf j u hu)
     exact ⟨pload_field hc,wload_slice (((X1b.out.below HBR.out (by omega)).below h (by omega)).cell (j:=1) rfl),wload_value (at5_cells (xat.below h hbB))⟩
    have HCK:Hid (∀ v,Below wr.heap.size wr v→Calls Tryz.prog 41 #[fagg f (.slice kp f.kinds.length kc),x.agg (.slice xq x.list.length xd)] v fun r w'=>r= .returned (.int .i64 (fieldC (readF 3) f x))∧Below v.heap.size v w'):=fun v h=>
     suits_any (n:=3) (N:=N) (P:=P) (fun m hm=>(rref_any m).1) f (.slice kp f.kinds.length kc) x (.slice xq x.list.length xd) v (fun b hb=>by have:=HP.out b hb;have:=h.size;omega) ((HE2.out.below HBR.out).below h) (hkv.below h) hkl xf (xl.below h) (fun h1 h2=>Nat.lt_of_lt_of_le (wanted_rk HOF.out (List.mem_of_getElem? hf) h1 h2) (rk_le k)) (Nat.le_trans (Nat.mul_le_mul_right _ (Nat.add_le_add_right hnx 13)) HND.out)
    have HJ2:=Lib.hid (HJ.out.trans (fieldsC_drop hf hx))
    obtain ⟨E,hE⟩:∃ E,fieldC (readF 3) f x=E:=⟨_,rfl⟩
    rw [hE] at HCK HJ2
    clear hel hx hf xat xl hv hkv hku a0 a1 a2 a3 a4 a5 a6 a7 a8 hcf hnx hkl hE hbw
    go_wp2
    go_region_held3 (fun v=>(Instr.loadAt 65 (.pointer (some ⟨fb,foff+j*9,none⟩))).run Tryz.prog v= .ok (fagg f (.slice kp f.kinds.length kc)) v∧(Instr.loadAt 31 (.pointer (some ⟨w.heap.size,1,none⟩))).run Tryz.prog v= .ok (.slice (some ⟨b,off,none⟩) g c) v∧(Instr.loadAt 42 (.pointer (some ⟨b,off+j*5,none⟩))).run Tryz.prog v= .ok (x.agg (.slice xq x.list.length xd)) v)
     (first
       |with_reducible exact HLF.out _ hb5
       |with_reducible exact HLF.out _ (Below.refl _ _).drew
       |with_reducible exact HLF.out _ (Below.refl _ _))
     ((go_at_call 41;refine (HCK.out _ (Below.refl _ _).drew).mono ?_;rintro r V ⟨rfl,hb5'⟩;have hb5:Below wr.heap.size wr V:=(Below.refl _ _).drew.trans hb5';clear hb5'))
    have HBV:Hid (Below w2.heap.size w2 V):=HBR.out.trans (hb5.mono (by omega))
    clear hb5
    by_cases hE0:E=0
    ·subst hE0
     have HJ3:=Lib.hid (HJ2.out.trans (if_neg (by simp)))
     go_wp2
     go_roundw
     case rel=>exact ⟨j+1,by go_num,by omega,HJ3.out,HBV.out⟩
     case measure=>simp [intOf];omega
    ·have hEb:(E !=0)=true:=by simp [hE0]
     have HJ3:=Lib.hid (HJ2.out.trans (if_pos hE0))
     have HRE:Hid (R=E):=HR2.out.trans ((if_pos (by rw [HJ3.out];exact hE0)).trans HJ3.out)
     clear hE0
     go_wp2
     go_ret
     exact ⟨pint HRE.out.symm,HB2.out.trans (HBV.out.mono (by have:=HB2.out.size;omega))⟩
   ·obtain rfl:j=g:=by omega
    have HJ0:Hid (fieldsC (readF 3) fs l=0):=by
     show _=_
     rw [HJ.out,List.drop_eq_nil_of_le (by rw [Hm.out];omega)];rfl
    have HR3:=Lib.hid (HR2.out.trans (if_neg (by rw [HJ0.out];simp)))
    have hzr:=HBR.out.size
    have hzw:=HB2.out.size
    have lr:=pload_rec (X1b.out.below HBR.out (by omega))
    have hbw:Below w.heap.size w wr:=HB2.out.trans (HBR.out.mono (by omega))
    have HPC:=Lib.hid ((rref_any 3).2 P _ _ N k fs l (.slice p j c) (.slice fp j fc) wr (fun b hb=>by have:=HP.out b hb;have:=hbw.size;omega) (HE2.out.below HBR.out) HOF.out (by rw [Hg.out,Hm.out]) (HFO.out.below HBR.out) (HL.out.below hbw) (rk_le k) HND.out (good_fields HJ0.out))
    clear hbw
    go_wp2_with (fail)
    refine HPC.out.mono ?_
    rintro r w5 ⟨lv5,M5,rfl,ho5,hb5⟩
    obtain ⟨q5,c5,rfl⟩:=ho5.slice
    obtain ⟨Wa,hWa⟩:∃ Wa,w5.alloc (.cells #[.int .i64 0,.int .u64 0,.string ⟨#[]⟩,.slice none 0 0,.int .i64 0] 42)=Wa:=⟨_,rfl⟩
    obtain ⟨xa,hza,hba⟩:=one_box (cs:=zeroT.cells (.slice none 0 0)) hWa
    obtain ⟨Wb,hst,xb,hbb,hzb⟩:=val_box xa rfl (packF 3 k l) q5 (packF 3 k l).list.length c5
    have hab:Below w5.heap.size w5 Wb:=hba.trans hbb
    have lq:=wload_value xb.1
    have HDP:=Lib.hid (rdepths M5 Wb.heap.size (packF 3 k l) (.slice q5 (packF 3 k l).list.length c5) Wb (ho5.below hab).lat (Nat.le_refl _) (by have h1:nodes (packF 3 k l)≤2*nodesL l+3:=pack_nodes2 (mild2F 3) k l;have:=HND.out;omega))
    have hz5:=hb5.size
    have HB5:=Lib.hid (HB2.out.trans ((HBR.out.trans ((hb5.trans (hab.mono hz5)).mono (by omega))).mono (by omega)))
    clear ho5
    obtain ⟨D,hD⟩:∃ D,depthT (packF 3 k l)=D:=⟨_,rfl⟩
    rw [hD] at HDP HR3
    clear hD hb5 xa hba xb hbb hab hz5 lr
    go_wp2_with (fail)
    refine HDP.out.mono ?_
    rintro r w6 ⟨rfl,hk6⟩
    have HB6:=Lib.hid (HB5.out.trans (hk6.mono (by have:=HB5.out.size;omega)))
    clear hk6 lq hst
    by_cases hd:32<D
    ·have HRE:Hid (R=26):=HR3.out.trans (if_pos hd)
     have hdb:decide ((D:Int)>32)=true:=by simp;omega
     go_wp2
     go_ret
     exact ⟨pint HRE.out.symm,HB6.out⟩
    ·have HRE:Hid (R=0):=HR3.out.trans (if_neg hd)
     have hdb:decide ((D:Int)>32)=false:=by simp;omega
     go_wp2
     go_ret
     exact ⟨pint HRE.out.symm,HB6.out⟩
theorem rrecPack_any {N:Nat} {P:Nat→Prop} (k:Int) (l:List VT) (lv:Value) (w:World) (hPw:∀ b,P b→b<w.heap.size) (hE:Env w) (hl:LAtP P w N lv l) (hnd:(nodesL l+13)*2^3≤800000000):
 Calls Tryz.prog 20 #[.agg #[.int .i64 k,lv]] w fun r w'=>RItAns P (packAns k l (recC (readF 3) (packF 3) k l)) (zeroT.agg (.slice none 0 0)) w r w':=by
 obtain ⟨p,c,rfl⟩:=hl.slice
 obtain ⟨W1,hW1⟩:∃ W1,(w.alloc (.cells #[.int .i64 k,.slice p l.length c] 33)).alloc (.cells #[.int .i64 0,.int .u64 0,.string ⟨#[]⟩,.slice none 0 0,.int .i64 0] 42)=W1:=⟨_,rfl⟩
 obtain ⟨x1,x2,hz1,hb1⟩:=two_boxes (cs:=[.int .i64 k,.slice p l.length c]) (ds:=zeroT.cells (.slice none 0 0)) hW1
 have l0:=pload_rec x1
 have HC:=Lib.hid (rrecCheck_any k l (.slice p l.length c) W1 (P:=P) (fun b hb=>by have:=hPw b hb;omega) (hE.below hb1) (hl.below hb1) hnd)
 have X1:=Lib.hid x1
 have X2:=Lib.hid x2
 have HB1:=Lib.hid hb1
 have HE1:=Lib.hid (hE.below hb1)
 have HL1:=Lib.hid (hl.below hb1)
 have HND:=Lib.hid hnd
 have HP:=Lib.hid hPw
 obtain ⟨C,hC⟩:∃ C,recC (readF 3) (packF 3) k l=C:=⟨_,rfl⟩
 have HCC:=Lib.hid hC
 rw [hC] at HC ⊢
 clear hl x1 x2 hb1 hE hnd hC hPw
 go_enter Tryz.func20,Tryz.ntmps20
 go_wp2_with (fail)
 clear hW1 l0
 refine HC.out.mono ?_
 rintro r w2 ⟨rfl,hb2⟩
 have z2:W1.heap.size≤w2.heap.size:=hb2.size
 have X2b:=X2.out.below hb2 (by omega)
 have HB2:=Lib.hid (HB1.out.trans (hb2.mono (by omega)))
 by_cases hC0:C=0
 ·subst hC0
  obtain ⟨fs,hfs,hll,hfc⟩:=recC_zero HCC.out
  have l5:=pload_int ((X1.out.below hb2 (by omega)).cell (j:=0) rfl)
  have hfk:=rfields_any k w2
  unfold FieldsAns at hfk
  rw [hfs] at hfk
  have HFK:=Lib.hid hfk
  have HF:Hid (fieldsT k=some fs∧l.length=fs.length∧GoodL 3 fs l):=⟨hfs,hll,good_fields hfc⟩
  have HB12:=Lib.hid hb2
  clear hfs hll hfc hb2 X2b hfk
  go_wp2_with (go_at_call 9;refine HFK.out.mono ?_;rintro r w3 ⟨vf,rfl,hfo,hb3⟩;have HB13:=Lib.hid (HB12.out.trans (hb3.mono z2));have HFO:=Lib.hid hfo;have l6:=pload_rec (X1.out.below HB13.out (by omega));clear hb3 hfo)
  have z3:=HB13.out.size
  have HPC:=Lib.hid ((rref_any 3).2 P _ _ N k fs l (.slice p l.length c) vf w3 (fun b hb=>by have:=HP.out b hb;omega) (HE1.out.below HB13.out) HF.out.1 HF.out.2.1 HFO.out (HL1.out.below HB13.out) (rk_le k) HND.out HF.out.2.2)
  refine HPC.out.mono ?_
  rintro r w6 ⟨lv6,M6,rfl,ho6,hb6⟩
  obtain ⟨q6,c6,rfl⟩:=ho6.slice
  have z6:=hb6.size
  obtain ⟨X7,hs7,hl7,hb7,hz7,hsame⟩:=val_store ((X2.out.below HB13.out (by omega)).below hb6 (by omega)) rfl (packF 3 k l) q6 (packF 3 k l).list.length c6
  have HLV:=Lib.hid hl7
  have HQ:Hid (RItAns P (packAns k l 0) (zeroT.agg (.slice none 0 0)) w (.returned (.tuple #[(packF 3 k l).agg (.slice q6 (packF 3 k l).list.length c6),.int .i64 0])) X7):=by
   show RItAns P (.ok (packF 3 k l)) _ w _ X7
   refine ⟨((HB1.out.trans (HB13.out.mono (by omega))).trans (hb6.mono (by omega))).trans (hb7.mono (by omega)),_,M6,rfl,packV_fine _ _,?_⟩
   refine (ho6.heap (w':=X7) (by omega) fun b hb hlt=>hsame b ?_).weak fun b hb _=>hb.elim .inl fun h=> .inr (by omega)
   rcases hb with h|h
   ·have:=HP.out b h;omega
   ·omega
  clear hl7 hb7 hz7 hsame ho6 hb6 l6
  go_wp2
  exact bodyPost_ret_by (results_cell_tmp2 rfl rfl HLV.out rfl) rfl HQ.out
 ·have hcb:(C !=0)=true:=by simp [hC0]
  obtain ⟨X6,hs6,hl6,hb6,hz6,_⟩:=val_store X2b rfl zeroT none 0 0
  replace hs6:(Instr.storeAt 42 (.pointer (some ⟨w.heap.size+1,0,none⟩)) (.agg #[.int .i64 0,.int .u64 0,.string ⟨#[]⟩,.slice none 0 0,.int .i64 0])).run Tryz.prog w2= .ok () X6:=hs6
  have HLV:=Lib.hid hl6
  have HQ:Hid (RItAns P (packAns k l C) (zeroT.agg (.slice none 0 0)) w (.returned (.tuple #[zeroT.agg (.slice none 0 0),.int .i64 C])) X6):=by
   show RItAns P (packAns k l C) _ w _ X6
   unfold packAns
   rw [if_neg hC0]
   exact ⟨HB2.out.trans (hb6.mono (by omega)),rfl⟩
  clear hl6 hb6 hz6 hC0 hb2 X2b
  go_wp2
  exact bodyPost_ret_by (results_cell_tmp2 rfl rfl HLV.out rfl) rfl HQ.out
theorem unR_unAns (t:VT):unR 3 t=unAns t (checkT t 1):=by
 unfold unR unAns
 by_cases h:checkT t 1=0
 ·rw [if_neg (by simp [h]),if_pos h]
 ·rw [if_pos h,if_neg h]
end Go.Proofs.YtfoiaiblggapeaaGreatDoor.Va
namespace Go.Proofs.YtfoiaiblggapeaaGreatDoor.Va
open Go Go.RowKit Nu
theorem greatAll_any {N B:Nat} {l:List VT} {lv:Value} {w:World} (hl:LAt B w N lv l) (hB:B≤w.heap.size):
 Calls Tryz.prog 14 #[lv] w fun r w'=>r= .returned (.bool (decide (100000<wts l 0)))∧Below w.heap.size w w':=by
 have HL:=Lib.hid hl
 obtain ⟨p,c,rfl⟩:=hl.slice
 have hlen:l.length≤9223372036854775807:=hl.len
 clear hl
 obtain ⟨n,hn⟩:∃ n,l.length=n:=⟨_,rfl⟩
 have Hn:=Lib.hid hn
 rw [hn] at hlen ⊢
 clear hn
 go_enter Tryz.func14,Tryz.ntmps14
 go_wp2
 go_loopw [3,4] (fun v i wr=>∃ (j q:Nat),v= .int .i64 q∧i= .int .i64 j∧j≤n∧Hid (wts (l.drop j) q=wts l 0)∧Hid (Below w.heap.size w wr)) (fun _ i _=>n-(intOf i).toNat)
 case atStart=>exact ⟨0,0,rfl,rfl,Nat.zero_le _,rfl,Below.refl _ _⟩
 case round=>
  obtain ⟨j,q,rfl,rfl,hj,HQ,hb⟩:=hrel
  have hend:∀ (q':Nat),¬j<n∨100000<q→(q:Nat)=wts l 0:=fun _ h=>by
   have:=HQ.out
   rcases h with h|h
   ·obtain rfl:j=n:=by omega
    rw [←Hn.out,wts_end] at this;omega
   ·rw [wts_big _ h] at this;omega
  have hE:=Lib.hid hend;clear hend
  by_cases hlt:j<n
  ·have hlt':(j:Int)<(n:Int):=by omega
   by_cases hq:q≤100000
   ·cases N with
    |zero=>exact HL.out.elim
    |succ N=>
     rcases HL.out with ⟨h0,_⟩|⟨b,off,c',hp,hbB,_,hel⟩
     ·rw [←Hn.out,h0] at hlt;exact absurd hlt (by simp)
     rw [Hn.out] at hp
     cases hp
     obtain ⟨t,ht⟩:∃ t,l[j]? =some t:=⟨_,List.getElem?_eq_getElem (by rw [Hn.out];exact hlt)⟩
     obtain ⟨hf,lv,hat,hl⟩:=hel j t ht
     have hbw:Below B w wr:=hb.out.mono hB
     obtain ⟨e0,e1,e2,e3,e4⟩:=hat.below hbw hbB
     have hst:=Lib.hid (wts_step ht hq)
     have HC:Hid (Calls Tryz.prog 37 #[.agg #[.int .i64 t.kind,.int .u64 t.num,.string t.text,lv,.int .i64 t.elem],.int .i64 q] wr fun r w'=>r= .returned (.int .i64 (wt t q:Nat))∧Below wr.heap.size wr w'):=
      weigh_any (N:=N) (B:=B) (t:=t) (n:=q) ⟨hf,lv,rfl,hl.below hbw⟩ (by have:=hb.out.size;omega) hq
     clear hel hl hat ht
     go_wp2_with (go_at_call 37;refine HC.out.mono ?_;rintro r w2 ⟨rfl,hb2⟩)
     go_roundw
     case rel=>exact ⟨j+1,_,rfl,by go_num,by omega,by rw [←hst.out];exact HQ.out,hb.out.trans (hb2.mono hb.out.size)⟩
     case measure=>simp [intOf];omega
   ·have hq':¬((q:Int)≤100000):=by omega
    go_wp2
    go_ret
    refine ⟨ret_bool ?_,hb.out⟩
    rw [←hE.out q (.inr (by omega)),Bool.eq_iff_iff];simp<;>omega
  ·have hlt':¬((j:Int)<(n:Int)):=by omega
   go_wp2
   all_goals
    go_ret
    refine ⟨ret_bool ?_,hb.out⟩
    rw [←hE.out q (.inl hlt),Bool.eq_iff_iff];simp<;>omega
def LentS (N:Nat):Prop:=∀ (B:Nat) (lv:Value) (l:List VT) (w:World),LAt B w N lv l→Sms l→B≤w.heap.size→
    Calls Tryz.prog 15 #[lv] w fun r w'=>∃ v',r= .returned v'∧LentAt w' N w.heap.size w'.heap.size v' l∧Below w.heap.size w w'
theorem lsize_alloc (w:World) (o:Obj):(w.alloc o).heap.size=w.heap.size+1:=Array.size_push ..
theorem heap_new (w:World) (o:Obj):(w.alloc o).heap[w.heap.size]? =some o:=by
 show (w.heap.push o)[w.heap.size]? =some o
 simp
theorem below_boxes2 (w:World) (o o':Obj):Below w.heap.size w ((w.alloc o).alloc o'):=((Below.refl _ _).alloc (Nat.le_refl _) _).alloc (by rw [lsize_alloc];omega) _
theorem lent_box (w:World) (a0 a1 a2 a3 a4 z0 z1 z2 z3 z4:Value) (T:TypeId) (w':World) (hb:Below (w.heap.size+2) ((w.alloc (.cells #[a0,a1,a2,a3,a4] T)).alloc (.cells #[z0,z1,z2,z3,z4] T)) w'):
 (w'.cell? ⟨w.heap.size,0,none⟩=some a0∧w'.cell? ⟨w.heap.size,1,none⟩=some a1∧w'.cell? ⟨w.heap.size,2,none⟩=some a2∧w'.cell? ⟨w.heap.size,3,none⟩=some a3∧w'.cell? ⟨w.heap.size,4,none⟩=some a4∧w'.frozen? ⟨w.heap.size,3,none⟩=false)∧
 (w'.cell? ⟨w.heap.size+1,0,none⟩=some z0∧w'.cell? ⟨w.heap.size+1,1,none⟩=some z1∧w'.cell? ⟨w.heap.size+1,2,none⟩=some z2∧w'.cell? ⟨w.heap.size+1,3,none⟩=some z3∧w'.cell? ⟨w.heap.size+1,4,none⟩=some z4)∧
 (w'.frozen? ⟨w.heap.size+1,0,none⟩=false∧w'.frozen? ⟨w.heap.size+1,1,none⟩=false∧w'.frozen? ⟨w.heap.size+1,2,none⟩=false∧w'.frozen? ⟨w.heap.size+1,3,none⟩=false∧w'.frozen? ⟨w.heap.size+1,4,none⟩=false)∧
 w'.heap[w.heap.size+1]? =some (.cells #[z0,z1,z2,z3,z4] T (0,0)):=by
 have h0:w'.heap[w.heap.size]? =some (.cells #[a0,a1,a2,a3,a4] T (0,0)):=(hb.block _ (by omega)).trans ((Below.heap_alloc _ _ _ (by rw [lsize_alloc];omega)).trans (heap_new _ _))
 have h1:w'.heap[w.heap.size+1]? =some (.cells #[z0,z1,z2,z3,z4] T (0,0)):=(hb.block _ (by omega)).trans (by rw [←lsize_alloc w];exact heap_new _ _)
 refine ⟨⟨?_,?_,?_,?_,?_,?_⟩,⟨?_,?_,?_,?_,?_⟩,⟨?_,?_,?_,?_,?_⟩,h1⟩
 all_goals simp [World.cell?,World.frozen?,h0,h1]
theorem lent_of {N:Nat} (hS:LentS N) (B:Nat) (k m:Int) (s:ByteArray) (e:Int) (l:List VT) (lv:Value) (w:World) (hl:LAt B w N lv l) (hs:Sms l) (hB:B≤w.heap.size):
 Calls Tryz.prog 25 #[.agg #[.int .i64 k,.int .u64 m,.string s,lv,.int .i64 e]] w fun r w'=>∃ v',r= .returned (.agg #[.int .i64 k,.int .u64 m,.string s,v',.int .i64 e])∧LentAt w' N w.heap.size w'.heap.size v' l∧Below w.heap.size w w':=by
 have HC:Hid (∀ w',Below w.heap.size w w'→Calls Tryz.prog 15 #[lv] w' fun r w''=>∃ v',r= .returned v'∧LentAt w'' N w'.heap.size w''.heap.size v' l∧Below w'.heap.size w' w''):=fun w' h=>hS B lv l w' (hl.below (h.mono hB)) hs (Nat.le_trans hB h.size)
 clear hl hs
 have HBX:=Lib.hid (lent_box w (.int .i64 k) (.int .u64 m) (.string s) lv (.int .i64 e) (.int .i64 0) (.int .u64 0) (.string ⟨#[]⟩) (.slice none 0 0) (.int .i64 0) 42)
 go_enter Tryz.func25,Tryz.ntmps25
 go_wp2_with (fail)
 have hbW:=Lib.hid ((below_boxes2 w (.cells #[.int .i64 k,.int .u64 m,.string s,lv,.int .i64 e] 42) (.cells #[.int .i64 0,.int .u64 0,.string ⟨#[]⟩,.slice none 0 0,.int .i64 0] 42)))
 have hzW:Hid (((w.alloc (.cells #[.int .i64 k,.int .u64 m,.string s,lv,.int .i64 e] 42)).alloc (.cells #[.int .i64 0,.int .u64 0,.string ⟨#[]⟩,.slice none 0 0,.int .i64 0] 42)).heap.size=w.heap.size+2):=by show _=_;rw [lsize_alloc,lsize_alloc]
 obtain ⟨W1,hW1⟩:∃ W1,(w.alloc (.cells #[.int .i64 k,.int .u64 m,.string s,lv,.int .i64 e] 42)).alloc (.cells #[.int .i64 0,.int .u64 0,.string ⟨#[]⟩,.slice none 0 0,.int .i64 0] 42)=W1:=⟨_,rfl⟩
 rw [hW1] at HBX hbW hzW ⊢
 clear hW1
 refine (HC.out W1 hbW.out).mono ?_
 rintro r w2 ⟨v',rfl,hL,hb2⟩
 obtain ⟨b',hv'⟩:=hL.form
 subst hv'
 have HL2:=Lib.hid hL
 have b2:Hid (Below (w.heap.size+2) W1 w2):=hb2.mono (Nat.le_of_eq hzW.out.symm)
 have s2:Hid (w.heap.size+2≤w2.heap.size):=Nat.le_trans (Nat.le_of_eq hzW.out.symm) hb2.size
 clear hL hb2
 obtain ⟨⟨a0,a1,a2,a3,a4,af⟩,⟨z0,z1,z2,z3,z4⟩,⟨f0,f1,f2,f3,f4⟩,hg⟩:=HBX.out w2 b2.out
 have HG:=Lib.hid hg
 clear hg
 go_wp2
 obtain ⟨v',hv'⟩:∃ v',Value.slice (some ⟨b',0,none⟩) l.length (l.length+3)=v':=⟨_,rfl⟩
 have hL3:=HL2.out
 rw [hv'] at hL3 ⊢
 have hh:Hid ((w2.setCell ⟨w.heap.size,3,none⟩ v').heap[w.heap.size+1]? =some (.cells #[.int .i64 0,.int .u64 0,.string ⟨#[]⟩,.slice none 0 0,.int .i64 0] 42 (0,0))):=(Below.heap_setCell _ _ _ _ (by simp)).trans HG.out
 have HW:=Lib.hid (heap5 (v0:= .int .i64 k) (v1:= .int .u64 m) (v2:= .string s) (v3:=v') (v4:= .int .i64 e) hh.out)
 refine bodyPost_ret_by (results_cell_row rfl _ _ (w.heap.size+1) _ _ _ _ rfl HW.out Tryz.underlying42 rfl (by kernel_rfl)) rfl ⟨v',rfl,?_,?_⟩
 ·have ha:Apart w.heap.size (w.heap.size+2) w2 (set5 (w2.setCell ⟨w.heap.size,3,none⟩ v') (w.heap.size+1) 0 (.int .i64 k) (.int .u64 m) (.string s) v' (.int .i64 e)):=
   ((Apart.refl w.heap.size (w.heap.size+2) w2).setCell (p:=⟨w.heap.size,3,none⟩) (Nat.le_refl _) (Nat.lt_add_of_pos_right (by decide)) v').trans ((set5_apart _ _ _ _ _ _ _ _).wide (by omega) (by omega))
  have:=hL3.apart ha (Nat.le_refl _) (.inr (Nat.le_of_eq hzW.out.symm))
  have hz:(set5 (w2.setCell ⟨w.heap.size,3,none⟩ v') (w.heap.size+1) 0 (.int .i64 k) (.int .u64 m) (.string s) v' (.int .i64 e)).heap.size=w2.heap.size:=by rw [set5_size];simp [World.setCell]
  rw [←hz] at this
  exact this.lo (Nat.le_trans (Nat.le_add_right _ 2) (Nat.le_of_eq hzW.out.symm))
 ·exact set5_below ((hbW.out.trans (b2.out.mono (by omega))).setCell (p:=⟨w.heap.size,3,none⟩) (Nat.le_refl _) v') (by omega)
noncomputable def infoLV:TypeInfo:=match Tryz.prog.info? 42 with|some i=>i|none=>default
theorem info_lv:Tryz.prog.info? 42=some infoLV:=by kernel_rfl
theorem infoLV_zero:infoLV.zero=some (.agg #[.int .i64 0,.int .u64 0,.string ⟨#[]⟩,.slice none 0 0,.int .i64 0]):=by kernel_rfl
theorem infoLV_size:infoLV.size=5:=by kernel_rfl
theorem infoLV_bytes:infoLV.bytes=64:=by kernel_rfl
theorem make_values (w:World) (n:Nat) (hn:n≤100000):∃ C:Array Value,C.size=(n+3)*5∧(Instr.makeSlice 31 (.int .i64 (n+3)) (.int .i64 (n+3))).run Tryz.prog w= .ok (.slice (some ⟨w.heap.size,0,none⟩) (n+3) (n+3)) (w.alloc (.cells C 42)):=by
 have:=run_make (P:=Tryz.prog) w 31 42 infoLV _ Tryz.underlying31 info_lv infoLV_zero .i64 .i64 (n+3) (n+3) (by omega) (Int.le_refl _) (by rw [infoLV_bytes];omega) (by omega)
 rw [infoLV_size] at this
 have e:(((n:Int)+3).toNat)=n+3:=by omega
 rw [e] at this
 exact ⟨_,size_madeCells _ _,this⟩
theorem lents:∀ N,LentS N:=by
 intro N
 induction N with
 |zero=>intro B lv l w h;exact h.elim
 |succ N ih=>
  intro B lv l w hl hs hB
  have HS:=Lib.hid ih
  have HL:=Lib.hid hl
  have HSM:=Lib.hid hs
  obtain ⟨p,c,rfl⟩:=hl.slice
  have hlen:=hs.len
  clear hl hs ih
  obtain ⟨n,hn⟩:∃ n,l.length=n:=⟨_,rfl⟩
  have Hn:=Lib.hid hn
  rw [hn] at hlen ⊢
  clear hn
  obtain ⟨C,hC,hmk⟩:=make_values w n hlen
  have hw3:IntKind.i64.wrap ((n:Int)+3)=n+3:=by rw [IntKind.wrap_i64];omega
  have HR0:Hid (LRel w (w.alloc (.cells C 42)) N 0 l):=LRel.start (by rw [Hn.out];exact hC)
  clear hC
  go_enter Tryz.func15,Tryz.ntmps15
  go_wp2
  clear hmk
  go_loopw [5] (fun i wr=>∃ (j:Nat),i= .int .i64 j∧j≤n+3∧Hid (LRel w wr N j l)) (fun i _=>n+3-(intOf i).toNat)
  case atStart=>exact ⟨0,rfl,Nat.zero_le _,HR0⟩
  case round=>
   obtain ⟨j,rfl,hj,HR⟩:=hrel
   have h3:=hlen
   by_cases hlt:j<n+3
   ·obtain ⟨v0,v1,v2,v3,v4,e0,e1,e2,e3,e4⟩:=HR.out.has.at5 (o:=j*5) (by rw [Hn.out];omega)
    have q0:=HR.out.froz (j*5)
    have q1:=HR.out.froz (j*5+1)
    have q2:=HR.out.froz (j*5+2)
    have q3:=HR.out.froz (j*5+3)
    have q4:=HR.out.froz (j*5+4)
    have hlt3:(j:Int)<(n:Int)+3:=by omega
    by_cases hjn:j<n
    ·rcases HL.out with ⟨h0,_⟩|⟨b0,off,c',hp,hbB,_,hel⟩
     ·rw [←Hn.out,h0] at hjn;exact absurd hjn (by simp)
     rw [Hn.out] at hp
     cases hp
     obtain ⟨t,ht⟩:∃ t,l[j]? =some t:=⟨_,List.getElem?_eq_getElem (by rw [Hn.out];exact hjn)⟩
     obtain ⟨hf,lv,hat,hlv⟩:=hel j t ht
     obtain ⟨g0,g1,g2,g3,g4⟩:=hat.below (HR.out.below.mono hB) hbB
     have hne:b0≠w.heap.size:=by omega
     have hne':w.heap.size≠b0:=by omega
     have hjn':(j:Int)<(n:Int):=by omega
     have HT:=Lib.hid ht
     have HF:=Lib.hid hf
     have hsm:=HSM.out.child ht
     have HC:Hid (∀ w',Below w.heap.size w w'→Calls Tryz.prog 25 #[.agg #[.int .i64 t.kind,.int .u64 t.num,.string t.text,lv,.int .i64 t.elem]] w' fun r w''=>∃ b',r= .returned (.agg #[.int .i64 t.kind,.int .u64 t.num,.string t.text,.slice (some ⟨b',0,none⟩) t.list.length (t.list.length+3),.int .i64 t.elem])∧LentAt w'' N w'.heap.size w''.heap.size (.slice (some ⟨b',0,none⟩) t.list.length (t.list.length+3)) t.list∧Below w'.heap.size w' w''):=fun w' hb'=>
      (lent_of HS.out B t.kind t.num t.text t.elem t.list lv w' (hlv.below (hb'.mono hB)) hsm (Nat.le_trans hB hb'.size)).mono fun r w'' ⟨v',h1,h2,h3⟩=>by
        obtain ⟨b',hb''⟩:=h2.form
        subst hb''
        exact ⟨b',h1,h2,h3⟩
     clear hel hat hlv ht hf hsm
     go_wp2_with (fail)
     generalize hW5:World.setCell _ _ _=W5
     have HW5:Hid (set5 wr w.heap.size (j*5) (.int .i64 (-7)) (.int .u64 j) (.string ⟨#[]⟩) (.slice none 0 0) (.int .i64 0)=W5):=hW5
     clear hW5
     refine (HC.out W5 (by rw [←HW5.out];exact set5_below HR.out.below (Nat.le_refl _))).mono ?_
     rintro r w2 ⟨b',rfl,hL,hb2⟩
     have HL2:=Lib.hid hL
     have HB2:=Lib.hid hb2
     have hlt5:w.heap.size<W5.heap.size:=by rw [←HW5.out,set5_size];exact HR.out.lt
     have HS5:Has W5 w.heap.size ((l.length+3)*5):=by rw [←HW5.out];exact HR.out.has.set5 (by rw [Hn.out];omega)
     have fz:∀ o,w2.frozen? ⟨w.heap.size,o,none⟩=false:=fun o=>(hb2.frozen (p:=⟨_,o,none⟩) hlt5).trans (by rw [←HW5.out,set5_frozen];exact HR.out.froz o)
     obtain ⟨u0,u1,u2,u3,u4,x0,x1,x2,x3,x4⟩:=(HS5.below hb2 hlt5).at5 (o:=j*5) (by rw [Hn.out];omega)
     have y0:=fz (j*5)
     have y1:=fz (j*5+1)
     have y2:=fz (j*5+2)
     have y3:=fz (j*5+3)
     have y4:=fz (j*5+4)
     clear hL hb2 HS5 fz e0 e1 e2 e3 e4 q0 q1 q2 q3 q4 g0 g1 g2 g3 g4 hlt5
     go_wp2
     go_roundw
     case rel=>exact ⟨j+1,by go_num,by omega,HR.out.part HT.out HF.out _ _ _ _ _ (by rw [HW5.out];exact HB2.out) (by rw [HW5.out];exact HL2.out)⟩
     case measure=>simp [intOf];omega
    ·have hjn':¬((j:Int)<(n:Int)):=by omega
     go_wp2
     go_roundw
     case rel=>exact ⟨j+1,by go_num,by omega,HR.out.mark (by rw [Hn.out];omega) (by rw [Hn.out];omega)⟩
     case measure=>simp [intOf];omega
   ·obtain rfl:j=n+3:=by omega
    go_wp2
    go_ret
    have:=HR.out
    rw [←Hn.out] at this
    refine ⟨_,rfl,?_,this.below⟩
    rw [←Hn.out]
    exact this.done (by rw [Hn.out];exact hlen)
end Go.Proofs.YtfoiaiblggapeaaGreatDoor.Va
namespace Go.Proofs.YtfoiaiblggapeaaGreatDoor.Va
open Go Go.RowKit Nu
attribute [local go_sem ↓] Go.wp_at_zero Go.wp_at_succ
def KeptS (N:Nat):Prop:=∀ (B lo hi:Nat) (v lv:Value) (l:List VT) (w:World),LentAt w N lo hi v l→LAt B w N lv l→B≤lo→hi≤w.heap.size→
    Calls Tryz.prog 18 #[v,lv] w fun r w'=>r= .returned (.bool true)∧Apart lo hi w w'
theorem kept_of {N:Nat} (hS:KeptS N) (B lo hi:Nat) (k m:Int) (s:ByteArray) (e:Int) (l:List VT) (v lv:Value) (w:World) (hl:LentAt w N lo hi v l) (ho:LAt B w N lv l) (hB:B≤lo) (hhi:hi≤w.heap.size):
 Calls Tryz.prog 29 #[.agg #[.int .i64 k,.int .u64 m,.string s,v,.int .i64 e],.agg #[.int .i64 k,.int .u64 m,.string s,lv,.int .i64 e]] w fun r w'=>r= .returned (.bool true)∧Apart lo hi w w':=by
 have hle:=hl.le
 have HC:Hid (∀ w',Below w.heap.size w w'→Calls Tryz.prog 18 #[v,lv] w' fun r w''=>r= .returned (.bool true)∧Apart lo hi w' w''):=fun w' h=>hS B lo hi v lv l w' (hl.below hhi h) (ho.below (h.mono (by omega))) hB (Nat.le_trans hhi h.size)
 obtain ⟨b',hv'⟩:=hl.form
 obtain ⟨p',c',hlv'⟩:=ho.slice
 subst hv' hlv'
 clear hl ho
 go_enter Tryz.func29,Tryz.ntmps29
 go_wp2_with (fail)
 refine (HC.out _ (below_boxes2 w _ _)).mono ?_
 rintro r w2 ⟨rfl,ha⟩
 have HA:=Lib.hid ((Apart.of_below (lo:=lo) (hi:=hi) (below_boxes2 w _ _) (Nat.le_refl _)).trans ha)
 clear ha
 go_wp2
 go_ret
 exact ⟨rfl,HA.out⟩
theorem kepts:∀ N,KeptS N:=by
 intro N
 induction N with
 |zero=>intro B lo hi v lv l w h;exact h.elim
 |succ N ih=>
  intro B lo hi v lv l w hl ho hB hhi
  have HS:=Lib.hid ih
  have HL:=Lib.hid ho
  obtain ⟨p,c,rfl⟩:=ho.slice
  obtain ⟨b,rfl,hlo,hbh,hlen,hA⟩:=lentAt_open hl
  have HA0:=Lib.hid hA
  clear hl ho ih hA
  obtain ⟨n,hn⟩:∃ n,l.length=n:=⟨_,rfl⟩
  have Hn:=Lib.hid hn
  rw [hn] at hlen ⊢
  clear hn
  have hw3:IntKind.i64.wrap ((n:Int)+3)=n+3:=by rw [IntKind.wrap_i64];omega
  go_enter Tryz.func18,Tryz.ntmps18
  go_wp2
  go_loopw [7,8,9] (fun g i x wr=>∃ (j:Nat),g= .bool true∧i= .int .i64 j∧j≤n+3∧Hid (ARel w wr N b lo hi j l)) (fun _ i _ _=>n+3-(intOf i).toNat)
  case atStart=>exact ⟨0,rfl,rfl,Nat.zero_le _,HA0⟩
  case round=>
   obtain ⟨j,rfl,rfl,hj,HR⟩:=hrel
   by_cases hlt:j<n+3
   ·have hlt3:(j:Int)<(n:Int)+3:=by omega
    have q0:=HR.out.froz (j*5)
    have q1:=HR.out.froz (j*5+1)
    have q2:=HR.out.froz (j*5+2)
    have q3:=HR.out.froz (j*5+3)
    have q4:=HR.out.froz (j*5+4)
    by_cases hjn:j<n
    ·obtain ⟨t,ht⟩:∃ t,l[j]? =some t:=⟨_,List.getElem?_eq_getElem (by rw [Hn.out];exact hjn)⟩
     obtain ⟨x,y,lv',hbx,hy,hf,ha,hlent,hstep⟩:=HR.out.head ht hlo hhi
     rcases HL.out with ⟨h0,_⟩|⟨b0,off,c',hp,hbB,_,hel⟩
     ·rw [←Hn.out,h0] at hjn;exact absurd hjn (by simp)
     rw [Hn.out] at hp
     cases hp
     obtain ⟨_,lv0,hat0,hlv0⟩:=hel j t ht
     have hbw:Below B w wr:=HR.out.apart.below hB (by omega)
     obtain ⟨g0,g1,g2,g3,g4⟩:=hat0.below hbw hbB
     obtain ⟨e0,e1,e2,e3,e4⟩:=ha
     have hle:=hlent.le
     have hsz:=HR.out.apart.size
     have hjn':(j:Int)<(n:Int):=by omega
     have hne:b0≠b:=by omega
     have hne':b≠b0:=by omega
     have HC:Hid (∀ w',Below wr.heap.size wr w'→Calls Tryz.prog 29 #[.agg #[.int .i64 t.kind,.int .u64 t.num,.string t.text,lv',.int .i64 t.elem],.agg #[.int .i64 t.kind,.int .u64 t.num,.string t.text,lv0,.int .i64 t.elem]] w' fun r w''=>r= .returned (.bool true)∧Apart x y w' w''):=fun w' hb'=>
      kept_of HS.out B x y t.kind t.num t.text t.elem t.list lv' lv0 w' (hlent.below (by omega) hb') ((hlv0.below hbw).below (hb'.mono (by omega))) (by omega) (by have:=hb'.size;omega)
     have HST:=Lib.hid hstep
     clear hel hat0 hlv0 hbw ht hstep hlent hle
     have HALL:Hid (∀ w',Apart x y wr w'→(Apart x y wr w'∧w'.cell? ⟨b,j*5,none⟩=some (.int .i64 t.kind)∧w'.cell? ⟨b,j*5+1,none⟩=some (.int .u64 t.num)∧w'.cell? ⟨b,j*5+2,none⟩=some (.string t.text)∧w'.cell? ⟨b,j*5+3,none⟩=some lv'∧w'.cell? ⟨b,j*5+4,none⟩=some (.int .i64 t.elem)∧
      w'.cell? ⟨b0,off+j*5,none⟩=some (.int .i64 t.kind)∧w'.cell? ⟨b0,off+j*5+1,none⟩=some (.int .u64 t.num)∧w'.cell? ⟨b0,off+j*5+2,none⟩=some (.string t.text)∧w'.cell? ⟨b0,off+j*5+3,none⟩=some lv0∧w'.cell? ⟨b0,off+j*5+4,none⟩=some (.int .i64 t.elem))):=fun w' h=>
      have k:∀ o,w'.cell? ⟨b,o,none⟩=wr.cell? ⟨b,o,none⟩:=fun o=>h.cell (p:=⟨b,o,none⟩) (by show b<wr.heap.size;omega) (.inl hbx)
      have k0:∀ o,w'.cell? ⟨b0,o,none⟩=wr.cell? ⟨b0,o,none⟩:=fun o=>h.cell (p:=⟨b0,o,none⟩) (by show b0<wr.heap.size;omega) (.inl (by show b0<x;omega))
      ⟨h,(k _).trans e0,(k _).trans e1,(k _).trans e2,(k _).trans e3,(k _).trans e4,(k0 _).trans g0,(k0 _).trans g1,(k0 _).trans g2,(k0 _).trans g3,(k0 _).trans g4⟩
     obtain ⟨kk,hkk⟩:∃ kk,t.kind=kk:=⟨_,rfl⟩
     rw [hkk] at e0 g0 HC HALL
     clear hkk
     by_cases hk:kk= -7
     ·subst hk
      go_wp2
      go_region_held3 (fun w'=>Apart x y wr w'∧w'.cell? ⟨b,j*5,none⟩=some (.int .i64 (-7))∧w'.cell? ⟨b,j*5+1,none⟩=some (.int .u64 t.num)∧w'.cell? ⟨b,j*5+2,none⟩=some (.string t.text)∧w'.cell? ⟨b,j*5+3,none⟩=some lv'∧w'.cell? ⟨b,j*5+4,none⟩=some (.int .i64 t.elem)∧
       w'.cell? ⟨b0,off+j*5,none⟩=some (.int .i64 (-7))∧w'.cell? ⟨b0,off+j*5+1,none⟩=some (.int .u64 t.num)∧w'.cell? ⟨b0,off+j*5+2,none⟩=some (.string t.text)∧w'.cell? ⟨b0,off+j*5+3,none⟩=some lv0∧w'.cell? ⟨b0,off+j*5+4,none⟩=some (.int .i64 t.elem))
       (first
         |with_reducible exact HALL.out _ ((Apart.refl _ _ _).drew.trans hb2.out)
         |with_reducible exact HALL.out _ (Apart.refl _ _ _).drew)
       ((go_at_call 29;refine (HC.out _ (Below.refl _ _).drew).mono ?_;rintro r w2 ⟨rfl,hb2'⟩;have hb2:=Lib.hid hb2';clear hb2'))
      have hb3:=Lib.hid ((Apart.refl x y wr).drew.trans hb2.out)
      have fz:∀ o,w2.frozen? ⟨b,o,none⟩=false:=fun o=>(hb3.out.frozen (p:=⟨b,o,none⟩) (by show b<wr.heap.size;omega) (.inl hbx)).trans (HR.out.froz o)
      have y0:=fz (j*5)
      have y1:=fz (j*5+1)
      have y2:=fz (j*5+2)
      have y3:=fz (j*5+3)
      have y4:=fz (j*5+4)
      obtain ⟨_,x0,x1,x2,x3,x4,_⟩:=HALL.out w2 hb3.out
      clear fz HALL HC e0 e1 e2 e3 e4 g0 g1 g2 g3 g4 q0 q1 q2 q3 q4
      go_wp2
      go_roundw
      case rel=>exact ⟨j+1,rfl,by go_num,by omega,HST.out w2 hb3.out _ _ _ _ _⟩
      case measure=>simp [intOf];omega
     ·go_wp2
      go_region_held3 (fun w'=>Apart x y wr w'∧w'.cell? ⟨b,j*5,none⟩=some (.int .i64 kk)∧w'.cell? ⟨b,j*5+1,none⟩=some (.int .u64 t.num)∧w'.cell? ⟨b,j*5+2,none⟩=some (.string t.text)∧w'.cell? ⟨b,j*5+3,none⟩=some lv'∧w'.cell? ⟨b,j*5+4,none⟩=some (.int .i64 t.elem)∧
       w'.cell? ⟨b0,off+j*5,none⟩=some (.int .i64 kk)∧w'.cell? ⟨b0,off+j*5+1,none⟩=some (.int .u64 t.num)∧w'.cell? ⟨b0,off+j*5+2,none⟩=some (.string t.text)∧w'.cell? ⟨b0,off+j*5+3,none⟩=some lv0∧w'.cell? ⟨b0,off+j*5+4,none⟩=some (.int .i64 t.elem))
       (first
         |with_reducible exact HALL.out _ ((Apart.refl _ _ _).drew.trans hb2.out)
         |with_reducible exact HALL.out _ (Apart.refl _ _ _).drew)
       ((go_at_call 29;refine (HC.out _ (Below.refl _ _).drew).mono ?_;rintro r w2 ⟨rfl,hb2'⟩;have hb2:=Lib.hid hb2';clear hb2'))
      have hb3:=Lib.hid ((Apart.refl x y wr).drew.trans hb2.out)
      have fz:∀ o,w2.frozen? ⟨b,o,none⟩=false:=fun o=>(hb3.out.frozen (p:=⟨b,o,none⟩) (by show b<wr.heap.size;omega) (.inl hbx)).trans (HR.out.froz o)
      have y0:=fz (j*5)
      have y1:=fz (j*5+1)
      have y2:=fz (j*5+2)
      have y3:=fz (j*5+3)
      have y4:=fz (j*5+4)
      obtain ⟨_,x0,x1,x2,x3,x4,_⟩:=HALL.out w2 hb3.out
      clear fz HALL HC e0 e1 e2 e3 e4 g0 g1 g2 g3 g4 q0 q1 q2 q3 q4
      go_wp2
      go_roundw
      case rel=>exact ⟨j+1,rfl,by go_num,by omega,HST.out w2 hb3.out _ _ _ _ _⟩
      case measure=>simp [intOf];omega
    ·have hjn':¬((j:Int)<(n:Int)):=by omega
     have hmk:=HR.out.marks j (by rw [Hn.out];omega) (by rw [Hn.out];exact hlt) (Nat.le_refl _)
     have e0:wr.cell? ⟨b,j*5,none⟩=some (.int .i64 (-7)):=hmk.kind
     have e1:wr.cell? ⟨b,j*5+1,none⟩=some (.int .u64 j):=hmk.num
     have e2:wr.cell? ⟨b,j*5+2,none⟩=some (.string ⟨#[]⟩):=hmk.text
     have e3:wr.cell? ⟨b,j*5+3,none⟩=some (.slice none 0 0):=hmk.list
     have e4:wr.cell? ⟨b,j*5+4,none⟩=some (.int .i64 0):=hmk.elem
     clear hmk
     go_wp2
     go_roundw
     case rel=>exact ⟨j+1,rfl,by go_num,by omega,HR.out.mark (by rw [Hn.out];omega) (by rw [Hn.out];exact hlt) hlo hbh hhi _ _ _ _ _⟩
     case measure=>simp [intOf];omega
   ·obtain rfl:j=n+3:=by omega
    go_wp2
    go_ret
    exact ⟨rfl,HR.out.apart⟩
end Go.Proofs.YtfoiaiblggapeaaGreatDoor.Va
