/-
  The texts V4 W1 W2 W3 of this claim, one behind the other.
-/
import Derived.Test.YtfoiaiblggapeaaDoorZSBB0
import Derived.Test.YtfoiaiblggapeaaDoorZSBA0
set_option maxHeartbeats 40000000
set_option maxRecDepth 100000
namespace Go.Proofs.YtfoiaiblggapeaaDoor.Va
open Go Go.RowKit Nu Go.Proofs.YtfoiaiblggapeaaDoor.Nm
attribute [local go_sem ↓] Go.wp_at_zero Go.wp_at_succ
def PreAns (s:ByteArray) (w:World) (r:Ending) (w':World):Prop:=∃ b,r= .returned (.bool b)∧(b=true↔lng<+:s.data.toList)∧w'=w
theorem prefix_in (s:ByteArray) (w:World) (hs:s.size≤9223372036854775807):
 Calls Tryd.prog 34 #[.string s,.string ⟨#[108,111,110,103,115,104,111,114,101,58]⟩] w (PreAns s w):=by
 go_enter Tryd.func34,Tryd.ntmps34
 by_cases h:10≤s.size
 ·go_wp2
  go_ret
  refine ⟨_,rfl,?_,rfl⟩
  rw [Lib.toList_data,Lib.extract_data,List.prefix_iff_eq_take,beq_iff_eq]
  exact ⟨fun h=>Eq.symm h,fun h=>Eq.symm h⟩
 ·go_wp2
  go_ret
  refine ⟨false,rfl,⟨fun hp=>(by cases hp),fun hp=>absurd hp.length_le ?_⟩,rfl⟩
  rw [←Lib.size_eq]
  simp [lng];omega
theorem prefix_any (s:ByteArray) (w:World) (hs:s.size≤9223372036854775807):
 Calls Tryd.prog 22 #[.string s,.string ⟨#[108,111,110,103,115,104,111,114,101,58]⟩] w (PreAns s w):=by
 go_enter Tryd.func22,Tryd.ntmps22
 go_wp2_with (go_at_call 34;refine (prefix_in s _ hs).mono ?_;rintro r w2 ⟨b,rfl,hb,rfl⟩;have HB:=Lib.hid hb;clear hb)
 go_ret
 exact ⟨_,rfl,HB.out,rfl⟩
theorem toEmpt {s:ByteArray} (h:s.toList=[]):s=empt:=toList_inj (by rw [h,Lib.toList_data];rfl)
theorem len_of_bne2 {a:Nat} (h:((a:Int)!=2)=false):a=2:=by simp at h;omega
theorem not_yet {ds:ByteArray} {q:Int} (h:∀ i,16≤i→i<q→nameL i≠[]→ds≠nameB i) (hq:¬ds=nameB q):∀ i,16≤i→i<q+1→nameL i≠[]→ds≠nameB i:=fun i h1 h2 h3=>by
 by_cases hi:i=q
 ·rw [hi];exact hq
 ·exact h i h1 (by omega) h3
def kindAns (o:Option Int):Value:= .tuple #[.int .i64 (kNum o),.bool o.isSome]
theorem kind_raw {N B:Nat} {k m:Int} {s:ByteArray} {e:Int} {l:List VT} {lv:Value} {w:World} {t:TypeId} (hl:LAt B w N lv l) (hf:(VT.mk k m s e l).Fine) (hB:B≤w.heap.size)
 (hsp:w.heap[0]? =some (.cells (Lib.asciiSpaceTab.map fun z=>Value.int .u8 z).toArray t (0,0))):
 Calls Tryd.prog 10 #[.agg #[.int .i64 k,.int .u64 m,.string s,lv,.int .i64 e]] w fun r w'=>r= .returned (kindAns (kindOf (.mk k m s e l)))∧Below w.heap.size w w':=by
 have HSP:Hid (∀ W',Below w.heap.size w W'→W'.heap[0]? =some (.cells (Lib.asciiSpaceTab.map fun z=>Value.int .u8 z).toArray t (0,0))):=fun W' h=>(h.block _ (Array.getElem?_eq_some_iff.1 hsp).1).trans hsp
 clear hsp
 obtain ⟨p,c,rfl⟩:=hl.slice
 have hlen:l.length≤9223372036854775807:=hl.len
 by_cases hd:k=24∧l.length=2
 ·obtain ⟨rfl,hl2⟩:=hd
  obtain ⟨d,x,rfl⟩:∃ d x,l=[d,x]:=by
   match l,hl2 with
   |[d,x],_=>exact ⟨d,x,rfl⟩
  cases N with
  |zero=>exact hl.elim
  |succ N=>
   rcases hl with ⟨h0,_⟩|⟨b,off,c',hp,hbB,_,hel⟩
   ·cases h0
   cases hp
   obtain ⟨hfd,lv,hat,hld⟩:=hel 0 d rfl
   obtain ⟨p,c1,rfl⟩:=hld.slice
   simp only [Nat.zero_mul,Nat.add_zero] at hat
   obtain ⟨e0,e1,e2,e3,e4⟩:=hat
   have hdl:d.list.length≤9223372036854775807:=hld.len
   obtain ⟨n0,n1,hx⟩:0≤d.num∧d.num≤18446744073709551615∧d.text.size≤9223372036854775807:=⟨hfd.n0,hfd.n1,hfd.x1⟩
   have hb0:b<w.heap.size:=by omega
   have hans:kindOf (.mk 24 m s e [d,x])=kindD d:=by simp [kindOf,VT.kind,VT.list]
   rw [hans]
   clear hel hld hans hf hlen hl2
   rw [show ([d,x]:List VT).length=2 from rfl]
   obtain ⟨K,hK⟩:∃ K,kindD d=K:=⟨_,rfl⟩
   rw [hK]
   have HK:=Lib.hid hK
   clear hK
   obtain ⟨dk,dm,ds,de,dl⟩:=d
   simp only [VT.kind,VT.num,VT.text,VT.elem,VT.list] at*
   by_cases hn:NumD (.mk dk dm ds de dl)
   ·have h1:=hn.kind
    have h2:=hn.text
    have h3:=hn.elem
    have h4:=hn.list
    simp only [VT.kind,VT.text,VT.elem,VT.list] at h1 h2 h3 h4
    subst h1 h2 h3 h4
    have hemp:empt.toList=[]:=by rw [Lib.toList_data];rfl
    by_cases hle:dm≤120
    ·by_cases hne:nameL dm=[]
     ·have HN:=Lib.hid (kindD_num_none hn hne)
      have hnb:(nameB dm).toList=[]:=by rw [nameB_toList,hne]
      clear hn hne
      go_enter Tryd.func10,Tryd.ntmps10
      go_wp2_with (go_at_call 20;refine Calls.mono (name_any dm (HSP.out _ ?_) (by omega) (by omega)) ?_;(repeat (first|exact Below.refl _ _|refine Below.alloc ?_ (by simp) _|refine Below.setCell ?_ (by simp) _));rintro r w2 ⟨rfl,hb2⟩)
      go_ret2
      refine ⟨by rw [←HK.out,HN.out];rfl,Below.trans ?_ (hb2.mono (by simp;omega))⟩
      (repeat (first|exact Below.refl _ _|refine Below.alloc ?_ (by simp) _|refine Below.setCell ?_ (by simp) _))
     ·have HN:=Lib.hid (kindD_num hn hne)
      have hnb:(!(nameB dm).toList.isEmpty)=true:=by rw [nameB_toList];simpa using hne
      clear hn hne
      go_enter Tryd.func10,Tryd.ntmps10
      go_wp2_with (go_at_call 20;refine Calls.mono (name_any dm (HSP.out _ ?_) (by omega) (by omega)) ?_;(repeat (first|exact Below.refl _ _|refine Below.alloc ?_ (by simp) _|refine Below.setCell ?_ (by simp) _));rintro r w2 ⟨rfl,hb2⟩)
      go_ret2
      refine ⟨by rw [←HK.out,HN.out];rfl,Below.trans ?_ (hb2.mono (by simp;omega))⟩
      (repeat (first|exact Below.refl _ _|refine Below.alloc ?_ (by simp) _|refine Below.setCell ?_ (by simp) _))
    ·have HN:=Lib.hid (kindD_num_none hn (name_out (.inr (by show 120<dm;omega))))
     clear hn
     go_enter Tryd.func10,Tryd.ntmps10
     go_wp2
     go_ret2
     refine ⟨by rw [←HK.out,HN.out];rfl,?_⟩
     (repeat (first|exact Below.refl _ _|refine Below.alloc ?_ (by simp) _|refine Below.setCell ?_ (by simp) _))
   ·by_cases hs:SymD (.mk dk dm ds de dl)
    ·have HS:=Lib.hid hs
     have h1:=hs.kind
     have h2:=hs.num
     have h3:=hs.elem
     have h4:=hs.list
     simp only [VT.kind,VT.num,VT.elem,VT.list] at h1 h2 h3 h4
     subst h1 h2 h3 h4
     clear hs hn
     go_enter Tryd.func10,Tryd.ntmps10
     go_wp2_with (go_at_call 22;refine (prefix_any ds _ hx).mono ?_;rintro r w2 ⟨bb,rfl,hbb,rfl⟩;have HBB:=Lib.hid hbb;clear hbb)
     ·obtain ⟨W1,hW1⟩:∃ W1,(w.alloc (.cells #[.int .i64 24,.int .u64 m,.string s,.slice (some ⟨b,off,none⟩) 2 c,.int .i64 e] 26)).alloc (.cells #[.int .i64 20,.int .u64 0,.string ds,.slice p 0 c1,.int .i64 0] 26)=W1:=⟨_,rfl⟩
      have hz1:W1.heap.size=w.heap.size+2:=by rw [←hW1];simp
      have hc2:W1.cell? ⟨w.heap.size+1,2,none⟩=some (.string ds):=by rw [←hW1];simp
      have hb1:Below w.heap.size w W1:=by rw [←hW1];exact ((Below.refl _ _).alloc (Nat.le_refl _) _).alloc (by simp) _
      rw [hW1]
      have hbt:bb=true:=by assumption
      have hlngH:Hid (lng<+:ds.data.toList):=HBB.out.1 hbt
      clear hW1 HBB e0 e1 e2 e3 e4
      subst hbt
      go_loopw [6] (fun i wr=>∃ (q:Int),i= .int .i64 q∧16≤q∧q≤121∧Hid (∀ i,16≤i→i<q→nameL i≠[]→ds≠nameB i)∧Below (w.heap.size+2) W1 wr) (fun i _=>(121-intOf i).toNat)
      case atStart=>exact ⟨16,rfl,by omega,by omega,fun i h1 h2=>by omega,Below.refl _ _⟩
      case round=>
       obtain ⟨q,rfl,hq0,hq1,HQ,hb⟩:=hrel
       have d2:wr.cell? ⟨w.heap.size+1,2,none⟩=some (.string ds):=(hb.cell (p:=⟨w.heap.size+1,2,none⟩) (by simp)).trans hc2
       have hbw:Below w.heap.size w wr:=hb1.trans (hb.mono (by omega))
       have HBW:=Lib.hid hbw
       have hzw:w.heap.size+2≤wr.heap.size:=by have:=hb.size;omega
       clear hbw
       by_cases hlt:q≤120
       ·have HALL:Hid (∀ w',Below wr.heap.size wr w'→(Below wr.heap.size wr w'∧w'.cell? ⟨w.heap.size+1,2,none⟩=some (.string ds))):=fun w' h=>⟨h,(h.cell (p:=⟨w.heap.size+1,2,none⟩) (by show w.heap.size+1<wr.heap.size;omega)).trans d2⟩
        go_wp2
        go_region_held3 (fun w'=>Below wr.heap.size wr w'∧w'.cell? ⟨w.heap.size+1,2,none⟩=some (.string ds))
         (first
           |exact HALL.out _ (Below.refl _ _)
           |exact HALL.out _ (Below.refl _ _).drew
           |exact HALL.out _ hb2
           |exact HALL.out _ (((Below.refl _ _).drew).trans hb2)
           |assumption)
         ((go_at_call 20;refine (name_any q (HSP.out _ (HBW.out.drew)) (by omega) (by omega)).mono ?_;rintro r w2 ⟨rfl,hb2⟩;replace hb2:Below wr.heap.size wr.drew w2:=hb2))
        have hb3:Below (w.heap.size+2) W1 w2:=hb.trans ((((Below.refl _ _).drew).trans hb2).mono hzw)
        clear HALL
        go_wp2
        ·rename_i hte
         have heq:ds=nameB q:=(toList_inj (by simpa using hte)).symm
         go_ret2
         have HN:=kindD_sym HS.out (k:=q) (fun h=>by
          have h':ds=empt:=h
          have:=hlngH.out
          rw [h'] at this
          exact absurd this.length_le (by decide)) heq HQ.out
         exact ⟨by rw [←HK.out,HN];rfl,hb1.trans (hb3.mono (by omega))⟩
        ·rename_i hte
         have hne:¬ds=nameB q:=fun h=>by rw [h] at hte;simp at hte
         go_roundw
         case rel=>exact ⟨q+1,rfl,by omega,by omega,not_yet HQ.out hne,hb3⟩
         case measure=>simp [intOf];omega
       ·obtain rfl:q=121:=by omega
        go_wp2
        go_ret2
        have HN:=kindD_sym_none HS.out fun i h1 h2 h3=>HQ.out i h1 (by omega) h3
        exact ⟨by rw [←HK.out,HN];rfl,HBW.out⟩
     ·go_ret2
      have HN:=kindD_sym_none HS.out fun i h1 h2 h3 h4=>by
       have hh:ds=nameB i:=h4
       have:=HBB.out.2 (by rw [hh];exact name_prefix h3)
       simp_all
      refine ⟨by rw [←HK.out,HN];rfl,?_⟩
      (repeat (first|exact Below.refl _ _|refine Below.alloc ?_ (by simp) _|refine Below.setCell ?_ (by simp) _))
    ·have HN:=Lib.hid (kindD_none hn hs)
     have Hs:=Lib.hid hs
     have Hn:=Lib.hid hn
     clear hs hn
     go_enter Tryd.func10,Tryd.ntmps10
     go_wp2_with (first
      |(go_at_call 20;exfalso;exact Hn.out ⟨(by assumption:dk=5),toEmpt (by assumption),(by assumption:de=0),(by assumption:dl=[])⟩)
      |(go_at_call 22;exfalso;exact Hs.out ⟨(by assumption:dk=20),(by assumption:dm=0),(by assumption:de=0),(by assumption:dl=[])⟩))
     all_goals
      go_ret2
      refine ⟨by rw [←HK.out,HN.out];rfl,?_⟩
      (repeat (first|exact Below.refl _ _|refine Below.alloc ?_ (by simp) _|refine Below.setCell ?_ (by simp) _))
 ·have hans:kindOf (.mk k m s e l)=none:=by
   exact if_neg hd
  rw [hans]
  have HD:=Lib.hid hd
  clear hd hl
  go_enter Tryd.func10,Tryd.ntmps10
  go_wp2
  all_goals first
   |(go_ret2;exact ⟨rfl,(Below.refl _ _).alloc (Nat.le_refl _) _⟩)
   |(exfalso;exact HD.out ⟨(by assumption:k=24),len_of_bne2 (by assumption)⟩)
theorem kind_any {N B:Nat} {d:VT} {v:Value} {w:World} {t:TypeId} (h:VAt B w N v d) (hB:B≤w.heap.size)
 (hsp:w.heap[0]? =some (.cells (Lib.asciiSpaceTab.map fun z=>Value.int .u8 z).toArray t (0,0))):
 Calls Tryd.prog 10 #[v] w fun r w'=>r= .returned (kindAns (kindOf d))∧Below w.heap.size w w':=by
 obtain ⟨hf,lv,rfl,hl⟩:=h
 obtain ⟨k,m,s,e,l⟩:=d
 exact kind_raw hl hf hB hsp
end Go.Proofs.YtfoiaiblggapeaaDoor.Va
namespace Go.Proofs.YtfoiaiblggapeaaDoor.Va
open Go Go.RowKit Go.Shelf Nu
attribute [local go_sem] Oper.semAt_some
attribute [-go_sem] Go.Instr.loadAt Go.Instr.storeAt
abbrev encI {B:Nat} {w0:World} {N:Nat} (x:It B w0 N):Array Value:=#[.int .i64 x.d,x.t.agg x.lv]
theorem each_stops (F:Fence) (hd:F.depth=none) (h1:F.fn 52) (h2:F.fn 53) (hro:F.round=none) (n Bt br B N:Nat) (t:VT) (lv:Value) (w:World) (hBt:Bt<w.heap.size) (_hne:Bt≠br) (hBr:B≤br) (hBw:B≤w.heap.size) (hbr:br<w.heap.size) (hf:t.Fine) (hl:LAt B w N lv t.list) (hc:Cells w Bt 0 (t.cells lv)) (hn:nodes t≤900000000):
 SeqStopsK F n Tryd.prog 52 #[.pointer (some ⟨Bt,0,none⟩)] (encI (B:=B) (w0:=w) (N:=N)) (Kc br) (fun ys=>FullC t 1 ys∧FullD t 1 ys) (PrefC t 1) (nodes t) w:=fun l J Jx W hW hJ _ hY h0=>by
 have hdd:∀ k:Nat,(F.depth.isSome=true→1≤k):=fun k h=>by rw [hd] at h;cases h
 have hw:=walkIn F hd h2 hro l br B N (nodes t) w hBr hBw J Jx (fun s A C hs hg=>hJ s A C none hs hg (fun r e=>by cases e)) (fun m pre x W1 hj hlt=>yieldAt_any hd m (hY pre x W1 hj hlt)) N (Nat.le_refl _) (n-1) t lv 1 [] W hf hl (Kc.of_below hW) (Nat.lt_of_lt_of_le hbr hW.size) h0 (by simp) (by omega)
 have l1:=wload_value (hc.below hW hBt)
 have HW:=Lib.hid hw
 clear hw hf hl hc hY hJ h0 hW
 refine callsIn_of_wp Tryd.func52 rfl h1 ?_ hro
 simp only [Tryd.ntmps52,List.size_toArray,List.length_cons,List.length_nil,Nat.reduceAdd,Nat.reduceSub,Array.replicate_succ,Array.replicate_zero,List.push_toArray,List.append_toArray,List.nil_append,List.cons_append]
 gi_wp2_with ((try refine ⟨hdd _,?_⟩);gi_at_call 53;refine HW.out.mono ?_;rintro e W1 (⟨rfl,_,ys,_,hfull,hJ1⟩|⟨rfl,q,hq,hx⟩))
 ·go_end0
  exact ⟨⟨_,rfl⟩,.inl ⟨ys,hfull,by simpa using hJ1⟩⟩
 ·go_end0
  exact ⟨⟨_,rfl⟩,.inr ⟨q,hq,by simpa using hx⟩⟩
theorem each_in (F:Fence) (n:Nat) (h:F.fn 36) (hro:F.round=none) (t:VT) (lv:Value) (w:World):
 CallsIn F n Tryd.prog 36 #[t.agg lv] w fun e w'=>e= .returned (.func (.func 52) #[] #[.pointer (some ⟨w.heap.size,0,none⟩)])∧w'=w.alloc (.cells (t.cells lv).toArray 26):=by
 refine callsIn_of_wp Tryd.func36 rfl h ?_ hro
 simp only [Tryd.ntmps36,List.size_toArray,List.length_cons,List.length_nil,Nat.reduceAdd,Nat.reduceSub,Array.replicate_succ,Array.replicate_zero,List.push_toArray,List.append_toArray,List.nil_append,List.cons_append]
 gi_wp2
 go_ret
 exact ⟨rfl,rfl⟩
end Go.Proofs.YtfoiaiblggapeaaDoor.Va
namespace Go.Proofs.YtfoiaiblggapeaaDoor.Va
open Go Go.RowKit Go.Shelf Nu
attribute [local go_sem] Oper.semAt_some
theorem wload_err {w:World} {a:Addr} {v:Value} (h:w.cell? a=some v):(Instr.loadAt 33 (.pointer (some a))).run Tryd.prog w= .ok v w:=by
 have:=Tryd.underlying33
 have:=Tryd.sizeOf33
 go_simp
theorem wloadVar_err {w:World} {a:Addr} {v:Value} (h:w.cell? a=some v):(loadVar 33 a).run Tryd.prog w= .ok v w:=by
 have:=Tryd.underlying33
 have:=Tryd.sizeOf33
 go_simp
theorem wstore_err {w:World} {b o:Nat} {k:Int} {u:Value} (hc:w.cell? ⟨b,o,none⟩=some u) (hf:w.frozen? ⟨b,o,none⟩=false):(Instr.storeAt 33 (.pointer (some ⟨b,o,none⟩)) (.int .i64 k)).run Tryd.prog w= .ok () (w.setCell ⟨b,o,none⟩ (.int .i64 k)):=by
 have:=Tryd.underlying33
 have:=Tryd.sizeOf33
 go_simp
attribute [-go_sem] Go.Instr.loadAt Go.Instr.storeAt
theorem kc_grown {br:Nat} {W W':World} {row:Option Nat} (hg:W.grownBy W' row) (hr:∀ r,row=some r→∃ o:Obj,W.heap[r]? =some o∧o.isCells=false) (hlo:∀ r,row=some r→br-1≤r):Kc br W W':=
 ⟨hg.os,hg.tape,hg.output,hg.size,fun k _ _ _ _ hh=>(hg.block k (Array.getElem?_eq_some_iff.1 hh).1 (fun e=>by
   obtain ⟨o,ho,hc⟩:=hr k e.symm
   rw [hh] at ho;cases ho;cases hc)).trans hh,fun k h1 h2=>hg.block k h2 (fun e=>by have:=hlo k e.symm;omega)⟩
theorem kc_b {br:Nat} {w:World} (hbr:br≤w.heap.size) (W:World) (l:Nat) (o o':Obj) (hl:w.heap.size≤l) (h:W.heap[l]? =some o) (ho:o.isCells=false) (_:o.isWalk=false):Kc br W (W.putObj l o'):=
 kc_grown (grownBy_putObj' W l o') (fun r e=>by cases e;exact ⟨o,h,ho⟩) (fun r e=>by cases e;omega)
theorem keepsFrom_below {B:Nat} {W W':World} (h:Below W.heap.size W W'):KeepsFrom B W W':=
 (show KeepsOthers W W' from ⟨h.size,fun k _ hk _=>(h.block k (Array.getElem?_eq_some_iff.1 hk).1).trans hk⟩).from B
def CI {B:Nat} {w0:World} {N:Nat} (br:Nat) (pre:List (It B w0 N)) (W:World):Prop:=(∀ y∈pre,y.ok)∧Kc br w0 W∧W.cell? ⟨br,0,none⟩=some (.int .i64 0)∧W.frozen? ⟨br,0,none⟩=false∧br<W.heap.size
def CX {B:Nat} {w0:World} {N:Nat} (br:Nat) (c:Code) (pre:List (It B w0 N)) (W:World):Prop:=c= .ret∧Kc br w0 W∧∃ q y,pre=q++[y]∧(∀ z∈q,z.ok)∧¬y.ok∧W.cell? ⟨br,0,none⟩=some (.int .i64 (aloneT y.t y.d))
theorem CI.own {B:Nat} {w0:World} {N br B':Nat} (hbr:br-1≤B'):OwnFrom B' (CI (B:=B) (w0:=w0) (N:=N) br):=fun s W W' row h hg hr=>by
 obtain ⟨h1,h2,h3,h4,h5⟩:=h
 have hr':∀ r,row=some r→∃ o:Obj,W.heap[r]? =some o∧o.isCells=false:=fun r e=>(hr r e).2
 exact ⟨h1,h2.trans (kc_grown hg hr' fun r e=>Nat.le_trans hbr (hr r e).1),cell_kept h3 hg hr',(frozen_kept h3 hg hr').trans h4,Nat.lt_of_lt_of_le h5 hg.size⟩
theorem CX.own {B:Nat} {w0:World} {N br B':Nat} (hbr:br-1≤B') (c:Code):OwnFrom B' (CX (B:=B) (w0:=w0) (N:=N) br c):=fun s W W' row h hg hr=>by
 obtain ⟨h1,h2,q,y,h3,h4,h5,h6⟩:=h
 have hr':∀ r,row=some r→∃ o:Obj,W.heap[r]? =some o∧o.isCells=false:=fun r e=>(hr r e).2
 exact ⟨h1,h2.trans (kc_grown hg hr' fun r e=>Nat.le_trans hbr (hr r e).1),q,y,h3,h4,h5,cell_kept h6 hg hr'⟩
theorem Kc.setCell {br:Nat} {a w:World} (h:Kc br a w) (j:Nat) (u:Value):Kc br a (w.setCell ⟨br,j,none⟩ u):=
 h.trans ⟨rfl,rfl,rfl,by simp [World.setCell],fun k cs T fr hk hh=>(Below.heap_setCell w ⟨br,j,none⟩ u k hk).trans hh,fun k h1 _=>Below.heap_setCell w ⟨br,j,none⟩ u k (by show k≠br;omega)⟩
theorem cells_grown {W W':World} {row:Option Nat} {b o:Nat} {cs:List Value} (h:Cells W b o cs) (hg:W.grownBy W' row) (hr:∀ r,row=some r→∃ o:Obj,W.heap[r]? =some o∧o.isCells=false):Cells W' b o cs:=fun j u hu=>cell_kept (h j u hu) hg hr
theorem results_mid0 {P:Program} {fn:Func} {p:Tmp} {ty:TypeId} {tmps:Array Value} {w:World} {g:Nat} {v:Value} (h:fn.results= #[.cell p ty]) (hp:tmps.getD p undef= .pointer (some ⟨g,0,none⟩)) (hld:(loadVar ty ⟨g,0,none⟩).run P w= .ok v w):
 (results fn tmps).run P w= .ok v w:=by
 have hp':tmps[p]?.getD undef= .pointer (some ⟨g,0,none⟩):=by simpa using hp
 simp [results,h,hp',asAddr,hld]
theorem put_cell {V:World} {D:Nat} {a:Addr} {v:Value} (hK:V.heap[D]? =some (.deferred (some []))) (h:V.cell? a=some v):(V.putObj D (.deferred none)).cell? a=some v:=
 cell_kept h (grownBy_putObj' V D _) (fun r e=>by cases e;exact ⟨_,hK,rfl⟩)
theorem put_kc {br:Nat} {V:World} {D:Nat} (hD:br-1≤D) (hK:V.heap[D]? =some (.deferred (some []))):Kc br V (V.putObj D (.deferred none)):=
 kc_grown (grownBy_putObj' V D _) (fun r e=>by cases e;exact ⟨_,hK,rfl⟩) (fun r e=>by cases e;exact hD)
theorem check_of {Tb:World→Prop} (HAl:∀ (N B:Nat) (t:VT) (lv:Value) (d:Int) (W:World),t.Fine→LAt B W N lv t.list→B≤W.heap.size→Tb W→Calls Tryd.prog 37 #[t.agg lv,.int .i64 d] W fun r w'=>r= .returned (.int .i64 (aloneT t d))∧Below W.heap.size W w')
 {N:Nat} (t:VT) (lv:Value) (w:World) (hTb:∀ W,Kc (w.heap.size+1) w W→Tb W) (hf:t.Fine) (hl:LAt w.heap.size w N lv t.list) (hn:nodes t≤900000000):
 Calls Tryd.prog 24 #[t.agg lv] w fun r w'=>r= .returned (.int .i64 (checkT t 1))∧Kc (w.heap.size+1) w w':=by
 refine (callsIn_wide (n:=8)).1 ?_
 obtain ⟨W1,hW1⟩:∃ W1,(w.alloc (.cells #[.int .i64 t.kind,.int .u64 t.num,.string t.text,lv,.int .i64 t.elem] 26)).alloc (.cells #[.int .i64 0] 33)=W1:=⟨_,rfl⟩
 obtain ⟨b1,b2,b3,b4⟩:=two_blocks hW1
 have k1:Cells W1 w.heap.size 0 (t.cells lv):=Cells.of_heap (cs:=t.cells lv) b1
 have l1:=wload_value k1
 obtain ⟨W2,hW2⟩:∃ W2,W1.alloc (.cells (t.cells lv).toArray 26)=W2:=⟨_,rfl⟩
 obtain ⟨d1,d2,d3⟩:=one_block hW2
 have k2:Cells W2 W1.heap.size 0 (t.cells lv):=Cells.of_heap (cs:=t.cells lv) d1
 have hbw:Below w.heap.size w W2:=b4.trans (d3.mono (by omega))
 have c2:W2.heap[w.heap.size+1]? =some (.cells #[.int .i64 0] 33 (0,0)):=(d3.block _ (by omega)).trans b2
 have h0:CI (B:=w.heap.size) (w0:=W2) (N:=N) (w.heap.size+1) [] W2:=⟨by simp,Kc.refl _ _,by simp [World.cell?,c2],by simp [World.frozen?,c2],by omega⟩
 have hst:=each_stops Fence.wide rfl trivial trivial rfl (8-1) W1.heap.size (w.heap.size+1) w.heap.size N t lv W2 (by omega) (by omega) (by omega) (by omega) (by omega) hf (hl.below hbw) k2 hn
 have HKw:=Lib.hid (Kc.of_below (br:=w.heap.size+1) hbw)
 have gE:Fence.wide.fn 36:=trivial
 refine callsIn_of_wp_marks Tryd.func24 rfl trivial ?_ rfl
 simp only [Tryd.ntmps24,List.size_toArray,List.length_cons,List.length_nil,Nat.reduceAdd,Nat.reduceSub,Array.replicate_succ,Array.replicate_zero,List.push_toArray,List.append_toArray,List.nil_append,List.cons_append]
 gi_wp2_with (gi_at_call 36;refine (each_in Fence.wide _ trivial rfl t lv _).mono ?_;rintro e w' ⟨rfl,rfl⟩;rw [hW2])
 rw [b3] at hst
 clear hW1 hW2 l1 k1 b1 b2 b4 d1 d3 c2
 have hzz:w.heap.size+2<W2.heap.size:=by omega
 refine wpIn_rangeFunc_ownH rfl (by decide) (gf:=52) (lb:=#[.pointer (some ⟨w.heap.size+2,0,none⟩)]) rfl trivial (enters_of Tryd.func52 (by kernel_rfl) rfl)
  hst Kc.trans (kc_b (by omega)) (Below.refl _ _) (fun _=>rfl)
  (CI (w.heap.size+1)) (CX (w.heap.size+1)) (CI.own (by omega)) (CX.own (by omega)) h0
  (fun x a' W=>∃ Bx,Cells W Bx 0 (x.t.cells x.lv)∧a'= {tmps:=#[t.agg lv,.pointer (some ⟨w.heap.size,0,none⟩),.pointer (some ⟨w.heap.size+1,0,none⟩),.int .i64 x.d,.pointer (some ⟨Bx,0,none⟩),undef,t.agg lv,.func (.func 52) #[] #[.pointer (some ⟨w.heap.size+2,0,none⟩)],.int .i64 x.d,x.t.agg x.lv,undef,undef,undef,undef,undef,undef],defers:=[]})
  ?hAx ?assign ?body ?done ?stop
 case hAx=>
  rintro x a' _ A C row ⟨Bx,hc,rfl⟩ hg hr
  exact ⟨Bx,cells_grown hc hg (fun r e=>(hr r e).2),rfl⟩
 case assign=>
  rintro l pre x W K hI hK
  obtain ⟨p,c,hx⟩:=x.lat.slice
  simp only [encI,hx] at hK ⊢
  obtain ⟨V1,V2,hV1,st1,kv,kb,kg⟩:=wbox_value W x.t p x.t.list.length c
  have KV:=Lib.hid kv
  have KB:=Lib.hid kb
  have KG:=Lib.hid kg
  clear kv kb kg
  gi_wp2
  exact hK _ _ (keepsFrom_below KB.out) (Kc.of_below KB.out) (CI.own (B':=w.heap.size) (by omega) _ _ _ none hI KG.out (fun r e=>by cases e)) ⟨_,KV.out,rfl⟩
 case body=>
  rintro l pre x a' W hl hr hI ⟨Bx,hcx,rfl⟩ hlt
  have lx:=wload_value hcx
  have hlat:=x.lat.kc hI.2.1 (by omega)
  have HA:=HAl N w.heap.size x.t x.lv x.d W x.fine hlat (by have:=hI.2.2.2.2;omega) (hTb W (HKw.out.trans hI.2.1))
  obtain ⟨k,hk⟩:∃ k,aloneT x.t x.d=k:=⟨_,rfl⟩
  rw [hk] at HA
  have HAh:=Lib.hid HA
  have HI:=Lib.hid hI
  have HKk:=Lib.hid hk
  clear HA hI hk hcx hlat
  have gA:(Fence.wide.inRound l).fn 37:=trivial
  have gA2:Fence.wide.fn 37:=trivial
  by_cases h0:k=0
  ·subst h0
   gi_wp2_with (gi_at_call 37;refine (CallsIn.inRound l (callsIn_wide.2 HAh.out)).mono ?_;rintro e W3 ⟨rfl,hb3⟩)
   obtain ⟨i1,i2,i3,i4,i5⟩:=HI.out
   exact ⟨keepsFrom_below hb3,Kc.of_below hb3,fun y hy=>by
    rcases List.mem_append.1 hy with h|h
    ·exact i1 y h
    ·obtain rfl:y=x:=by simpa using h
     exact HKk.out,i2.trans (Kc.of_below hb3),(hb3.cell (p:=⟨w.heap.size+1,0,none⟩) i5).trans i3,(hb3.frozen (p:=⟨w.heap.size+1,0,none⟩) i5).trans i4,Nat.lt_of_lt_of_le i5 hb3.size⟩
  ·have hne:(k !=0)=true:=by simp [h0]
   gi_wp2_with (gi_at_call 37;refine (CallsIn.inRound l (callsIn_wide.2 HAh.out)).mono ?_;rintro e W3 ⟨rfl,hb3⟩
                have hst3:=wstore_err (k:=k) ((hb3.cell (p:=⟨w.heap.size+1,0,none⟩) HI.out.2.2.2.2).trans HI.out.2.2.1) ((hb3.frozen (p:=⟨w.heap.size+1,0,none⟩) HI.out.2.2.2.2).trans HI.out.2.2.2.1))
   have HST:=Lib.hid hb3
   obtain ⟨i1,i2,i3,i4,i5⟩:=HI.out
   exact ⟨(keepsFrom_below hb3).trans ((KeepsOthers.setCell _ _ _).from _),rfl,Kc.setCell (i2.trans (Kc.of_below hb3)) 0 _,pre,x,rfl,i1,(by intro h;exact h0 (HKk.out.symm.trans h)),by rw [HKk.out];exact World.cell?_setCell_same _ _ _ ((hb3.cell (p:=⟨w.heap.size+1,0,none⟩) i5).trans i3)⟩
 case done=>
  rintro D ys W hD hfull ⟨i1,i2,i3,i4,i5⟩ hK
  have hst3:=wstore_err (k:=0) i3 i4
  have HV:Hid (checkT t 1=0):=hfull.1 i1
  have hK':(W.setCell ⟨w.heap.size+1,0,none⟩ (.int .i64 0)).heap[D]? =some (.deferred (some [])):=(Below.heap_setCell _ _ _ _ (by show D≠w.heap.size+1;omega)).trans hK
  have hc':=World.cell?_setCell_same W ⟨w.heap.size+1,0,none⟩ (.int .i64 0) i3
  have HKe:=Lib.hid ((Kc.setCell (HKw.out.trans i2) 0 (.int .i64 0)).trans (put_kc (by omega) hK'))
  have HC:=Lib.hid (wloadVar_err (put_cell hK' hc'))
  have HKd:=Lib.hid hK'
  clear hK hK' hc' i1 i2 i3 i4 i5 hfull
  gi_wp2
  refine ⟨by simp,.inl ⟨_,_,rfl,run_takeDeferred HKd.out,?_⟩⟩
  exact ⟨_,results_mid0 rfl rfl HC.out,by rw [HV.out],HKe.out⟩
 case stop=>
  rintro D c pre W hD hq ⟨rfl,hk,q,y,rfl,hok,hny,hc⟩ hK
  have HV:Hid (checkT t 1=aloneT y.t y.d):=hq.2 q y rfl hok hny
  have HKe:=Lib.hid ((HKw.out.trans hk).trans (put_kc (by omega) hK))
  have HC:=Lib.hid (wloadVar_err (put_cell hK hc))
  have HKd:=Lib.hid hK
  clear hk hok hny hc hK hq
  gi_wp2
  refine ⟨by simp,.inl ⟨_,_,rfl,run_takeDeferred HKd.out,?_⟩⟩
  exact ⟨_,results_mid0 rfl rfl HC.out,by rw [HV.out],HKe.out⟩
end Go.Proofs.YtfoiaiblggapeaaDoor.Va
namespace Go.Proofs.YtfoiaiblggapeaaDoor.Va
open Go Go.RowKit Go.Shelf Nu
attribute [local go_sem] Oper.semAt_some
theorem wload_int {w:World} {a:Addr} {v:Value} (h:w.cell? a=some v):(Instr.loadAt 3 (.pointer (some a))).run Tryd.prog w= .ok v w:=by
 have:=Tryd.underlying3
 have:=Tryd.sizeOf3
 go_simp
theorem wstore_int {w:World} {b o:Nat} {k:Int} {u:Value} (hc:w.cell? ⟨b,o,none⟩=some u) (hf:w.frozen? ⟨b,o,none⟩=false):(Instr.storeAt 3 (.pointer (some ⟨b,o,none⟩)) (.int .i64 k)).run Tryd.prog w= .ok () (w.setCell ⟨b,o,none⟩ (.int .i64 k)):=by
 have:=Tryd.underlying3
 have:=Tryd.sizeOf3
 go_simp
attribute [-go_sem] Go.Instr.loadAt Go.Instr.storeAt
def DI {B:Nat} {w0:World} {N:Nat} (br:Nat) (pre:List (It B w0 N)) (W:World):Prop:=Kc br w0 W∧W.cell? ⟨br,0,none⟩=some (.int .i64 (maxD 0 pre))∧W.frozen? ⟨br,0,none⟩=false∧br<W.heap.size
theorem DI.own {B:Nat} {w0:World} {N br B':Nat} (hbr:br-1≤B'):OwnFrom B' (DI (B:=B) (w0:=w0) (N:=N) br):=fun s W W' row h hg hr=>by
 obtain ⟨h2,h3,h4,h5⟩:=h
 have hr':∀ r,row=some r→∃ o:Obj,W.heap[r]? =some o∧o.isCells=false:=fun r e=>(hr r e).2
 exact ⟨h2.trans (kc_grown hg hr' fun r e=>Nat.le_trans hbr (hr r e).1),cell_kept h3 hg hr',(frozen_kept h3 hg hr').trans h4,Nat.lt_of_lt_of_le h5 hg.size⟩
theorem depth_any {N:Nat} (t:VT) (lv:Value) (w:World) (hf:t.Fine) (hl:LAt w.heap.size w N lv t.list) (hn:nodes t≤900000000):
 Calls Tryd.prog 27 #[t.agg lv] w fun r w'=>r= .returned (.int .i64 (depthT t:Nat))∧Kc (w.heap.size+1) w w':=by
 refine (callsIn_wide (n:=8)).1 ?_
 obtain ⟨W1,hW1⟩:∃ W1,(w.alloc (.cells #[.int .i64 t.kind,.int .u64 t.num,.string t.text,lv,.int .i64 t.elem] 26)).alloc (.cells #[.int .i64 0] 3)=W1:=⟨_,rfl⟩
 obtain ⟨b1,b2,b3,b4⟩:=two_blocks hW1
 have e0:W1.cell? ⟨w.heap.size+1,0,none⟩=some (.int .i64 0):=by simp [World.cell?,b2]
 have e1:W1.frozen? ⟨w.heap.size+1,0,none⟩=false:=by simp [World.frozen?,b2]
 have hst0:=wstore_int (k:=0) e0 e1
 have hsame:W1.setCell ⟨w.heap.size+1,0,none⟩ (.int .i64 0)=W1.setCell ⟨w.heap.size+1,0,none⟩ (.int .i64 0):=rfl
 clear hsame
 obtain ⟨V1,hV1⟩:∃ V1,W1.setCell ⟨w.heap.size+1,0,none⟩ (.int .i64 0)=V1:=⟨_,rfl⟩
 rw [hV1] at hst0
 have v1:V1.heap[w.heap.size]? =some (.cells #[.int .i64 t.kind,.int .u64 t.num,.string t.text,lv,.int .i64 t.elem] 26 (0,0)):=by rw [←hV1];exact (Below.heap_setCell _ _ _ _ (by simp)).trans b1
 have v2:V1.cell? ⟨w.heap.size+1,0,none⟩=some (.int .i64 0):=by rw [←hV1];exact World.cell?_setCell_same _ _ _ e0
 have v3:V1.frozen? ⟨w.heap.size+1,0,none⟩=false:=by rw [←hV1,World.frozen?_setCell];exact e1
 have v4:V1.heap.size=w.heap.size+2:=by rw [←hV1];simp [World.setCell,b3]
 have v5:Below w.heap.size w V1:=by rw [←hV1];exact b4.setCell (p:=⟨w.heap.size+1,0,none⟩) (Nat.le_succ _) _
 clear hV1 e0 e1 b1 b2 b4
 have k1:Cells V1 w.heap.size 0 (t.cells lv):=Cells.of_heap (cs:=t.cells lv) v1
 have l1:=wload_value k1
 obtain ⟨W2,hW2⟩:∃ W2,V1.alloc (.cells (t.cells lv).toArray 26)=W2:=⟨_,rfl⟩
 obtain ⟨d1,d2,d3⟩:=one_block hW2
 have k2:Cells W2 V1.heap.size 0 (t.cells lv):=Cells.of_heap (cs:=t.cells lv) d1
 have hbw:Below w.heap.size w W2:=v5.trans (d3.mono (by omega))
 have h0:DI (B:=w.heap.size) (w0:=W2) (N:=N) (w.heap.size+1) [] W2:=⟨Kc.refl _ _,(d3.cell (p:=⟨w.heap.size+1,0,none⟩) (by show w.heap.size+1<_;omega)).trans v2,(d3.frozen (p:=⟨w.heap.size+1,0,none⟩) (by show w.heap.size+1<_;omega)).trans v3,by omega⟩
 have hst:=each_stops Fence.wide rfl trivial trivial rfl (8-1) V1.heap.size (w.heap.size+1) w.heap.size N t lv W2 (by omega) (by omega) (by omega) (by omega) (by omega) hf (hl.below hbw) k2 hn
 have HKw:=Lib.hid (Kc.of_below (br:=w.heap.size+1) hbw)
 have gE:Fence.wide.fn 36:=trivial
 refine callsIn_of_wp_marks Tryd.func27 rfl trivial ?_ rfl
 simp only [Tryd.ntmps27,List.size_toArray,List.length_cons,List.length_nil,Nat.reduceAdd,Nat.reduceSub,Array.replicate_succ,Array.replicate_zero,List.push_toArray,List.append_toArray,List.nil_append,List.cons_append]
 gi_wp2_with (gi_at_call 36;refine (each_in Fence.wide _ trivial rfl t lv _).mono ?_;rintro e w' ⟨rfl,rfl⟩;rw [hW2])
 rw [v4] at hst
 clear hW1 hW2 l1 k1 d1 d3 v1 v2 v3 v5 hst0
 have hzz:w.heap.size+2<W2.heap.size:=by omega
 refine wpIn_rangeFunc_ownH rfl (by decide) (gf:=52) (lb:=#[.pointer (some ⟨w.heap.size+2,0,none⟩)]) rfl trivial (enters_of Tryd.func52 (by kernel_rfl) rfl)
  hst Kc.trans (kc_b (by omega)) (Below.refl _ _) (fun _=>rfl)
  (DI (w.heap.size+1)) (fun _ _ _=>False) (DI.own (by omega)) (fun _ _ _ _ _ hs _ _=>hs) h0
  (fun x a' W=>a'= {tmps:=#[t.agg lv,.pointer (some ⟨w.heap.size,0,none⟩),.int .i64 0,.pointer (some ⟨w.heap.size+1,0,none⟩),.int .i64 x.d,t.agg lv,.func (.func 52) #[] #[.pointer (some ⟨w.heap.size+2,0,none⟩)],.int .i64 x.d,x.t.agg x.lv,undef,undef,undef,undef],defers:=[]})
  ?hAx ?assign ?body ?done ?stop
 case hAx=>
  rintro x a' _ A C row h hg hr
  exact h
 case assign=>
  rintro l pre x W K hI hK
  gi_wp2
  exact hK _ _ (keepsFrom_below (Below.refl _ _)) (Kc.refl _ _) hI rfl
 case body=>
  rintro l pre x a' W hl hr ⟨i1,i2,i3,i4⟩ rfl hlt
  have lx:=wload_int i2
  have hs1:=wstore_int (k:=maxD 0 pre) i2 i3
  have hs2:=wstore_int (k:=x.d) i2 i3
  have hs3:=wstore_int (k:=max (maxD 0 pre) x.d) i2 i3
  have HN:Hid (∀ k:Int,k=max (maxD 0 pre) x.d→KeepsFrom W2.heap.size W (W.setCell ⟨w.heap.size+1,0,none⟩ (.int .i64 k))∧Kc (w.heap.size+1) W (W.setCell ⟨w.heap.size+1,0,none⟩ (.int .i64 k))∧DI (w.heap.size+1) (pre++[x]) (W.setCell ⟨w.heap.size+1,0,none⟩ (.int .i64 k))):=fun k hk=>
   ⟨(KeepsOthers.setCell _ _ _).from _,Kc.setCell (Kc.refl _ _) 0 _,Kc.setCell i1 0 _,by rw [World.cell?_setCell_same _ _ _ i2,hk];simp [maxD],(World.frozen?_setCell ..).trans i3,by simpa [World.setCell] using i4⟩
  clear i1 i2 i3 i4 d2
  gi_wp2
  all_goals exact HN.out _ (by omega)
 case done=>
  rintro D ys W hD ⟨_,hfull⟩ ⟨i1,i2,i3,i4⟩ hK
  have lx:=wload_int i2
  have HV:Hid (maxD 0 ys=(depthT t:Nat)):=by show _=_;rw [hfull 0];omega
  have HKe:=Lib.hid ((HKw.out.trans i1).trans (put_kc (by omega) hK))
  have HKd:=Lib.hid hK
  clear i1 i2 i3 i4 hK hfull
  gi_wp2
  refine ⟨by simp,.inl ⟨_,_,rfl,run_takeDeferred HKd.out,?_⟩⟩
  exact ⟨_,results_tmp rfl _ _ _,by rw [←HV.out];rfl,HKe.out⟩
 case stop=>
  rintro D c pre W hD hq h hK
  exact h.elim
end Go.Proofs.YtfoiaiblggapeaaDoor.Va
