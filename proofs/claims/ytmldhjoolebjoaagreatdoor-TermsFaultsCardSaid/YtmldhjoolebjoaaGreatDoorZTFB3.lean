/-
  The texts M2 C2 W4 P3 P4 of this claim, one behind the other.
-/
import Derived.Test.YtmldhjoolebjoaaGreatDoorZTFB2
import Derived.Test.YtmldhjoolebjoaaGreatDoorZTFA0
import Derived.Laws.MakeOwn
import Derived.Laws.AppendOwn
import Derived.Maps.AppendAt
import Derived.Test.YtmldhjoolebjoaaGreatDoorZTFB1
import Derived.Test.YtmldhjoolebjoaaGreatDoorZTFB0
set_option maxHeartbeats 40000000
set_option maxRecDepth 100000
namespace Go.Proofs.YtmldhjoolebjoaaGreatDoor.Va
open Go Go.RowKit Go.Shelf Go.Sort Nu
attribute [local go_sem ↓] Go.wp_at_zero Go.wp_at_succ
theorem ae8:(Tryz.prog.info? 25).map (fun i=>(i.zero,i.size,i.bytes))=some (some (.agg #[.int .i64 0,.int .u64 0,.string ⟨#[]⟩,.slice none 0 0,.int .i64 0]),5,64):=by kernel_rfl
theorem UX (p:Option Addr) (cap:Nat) (w:World):Calls Tryz.prog 158 #[.slice p 0 cap,M9] w fun r w'=>r= .returned (.tuple #[])∧w'=w:=
 AnyF.slices_SortFunc_none Tryz.abR p cap M9 w
theorem Yw {B:Nat} {w:World} {N:Nat} (g cap:Nat) (d:List (VT×Value)) (hd:∀ x∈d,bR B w N x.2 x.1.list) (hB:B≤g) (hg:g<w.heap.size) (hrow:R5 w g d) (hfz:∀ j,j<d.length*5→w.frozen? ⟨g,j,none⟩=false) (hlen:d.length<4611686018427387904):
 Calls Tryz.prog 158 #[.slice (some ⟨g,0,none⟩) d.length cap,M9] w (Sorted B w N g d):=by
 by_cases h0:0<d.length
 ·exact Yu g cap d hd h0 hB hg hrow hfz hlen
 ·obtain rfl:d=[]:=List.length_eq_zero_iff.1 (by omega)
  refine Calls.mono (UX _ cap w) ?_
  rintro r w' ⟨rfl,rfl⟩
  exact ⟨rfl,[],by simp,fun i j x y _ hx=>by simp at hx,fun i x hx=>by simp at hx,by simp,rfl,Below.refl _ _⟩
def pK (d:List (VT×Value)):List Value:=d.flatMap fun x=>x.1.cells x.2
theorem Nb (d:List (VT×Value)) (t:VT) (lv:Value):pK (d++[(t,lv)])=pK d++t.cells lv:=by simp [pK]
theorem EL:∀ (d:List (VT×Value)) (i:Nat) (x:VT×Value) (c:Nat),d[i]? =some x→c<5→(pK d)[i*5+c]? =(x.1.cells x.2)[c]?
 |[],i,x,c,h,_=>by simp at h
 |y::d,0,x,c,h,hc=>by
  simp at h;subst h
  simp only [pK,List.flatMap_cons,Nat.zero_mul,Nat.zero_add]
  rw [List.getElem?_append_left (by simpa [VT.cells] using hc)]
 |y::d,i+1,x,c,h,hc=>by
  have:=EL d i x c (by simpa using h) hc
  simp only [pK,List.flatMap_cons] at this ⊢
  rw [List.getElem?_append_right (by simp [VT.cells];omega)]
  rw [show (i+1)*5+c-(y.1.cells y.2).length=i*5+c by simp [VT.cells];omega]
  exact this
theorem Yx {w:World} {base:Nat} {v:Value} {d:List (VT×Value)} (h:w.ownsRow base 25 5 v d.length (pK d)):v= .slice none 0 0∧d=[]∨∃ g cap,v= .slice (some ⟨g,0,none⟩) d.length cap∧base≤g∧g<w.heap.size∧R5 w g d∧∀ j,j<d.length*5→w.frozen? ⟨g,j,none⟩=false:=by
 rcases h.2 with ⟨rfl,h0⟩|⟨g,cap,cur,rfl,hb,hh,h1,h2,h3,h4⟩
 ·exact .inl ⟨rfl,List.length_eq_zero_iff.1 h0⟩
 ·refine .inr ⟨g,cap,rfl,hb,(Array.getElem?_eq_some_iff.1 hh).1,fun i x hx=>?_,fun j hj=>?_⟩
  ·have key:∀ c,c<5→w.cell? ⟨g,i*5+c,none⟩=(x.1.cells x.2)[c]? :=fun c hc=>by
    have hi:=(List.getElem?_eq_some_iff.1 hx).1
    have e1:w.cell? ⟨g,i*5+c,none⟩=cur[i*5+c]? :=by unfold World.cell?;rw [hh];rfl
    rw [e1,←Array.getElem?_toList,←EL d i x c hx hc,←h4,List.getElem?_take,if_pos (by omega)]
   exact ⟨key 0 (by omega),key 1 (by omega),key 2 (by omega),key 3 (by omega),key 4 (by omega)⟩
  ·unfold World.frozen?
   rw [hh]
   simp
theorem ahW {B:Nat} {w:World} {N:Nat} {t:VT} {lv:Value} (h:bR B w N lv t.list):∀ u∈t.cells lv,u.oneCell'=true:=by
 obtain ⟨p,c,rfl⟩:=h.slice
 intro u hu
 simp only [VT.cells,List.mem_cons,List.not_mem_nil,or_false] at hu
 rcases hu with rfl|rfl|rfl|rfl|rfl<;>rfl
theorem aaQ (b off j:Nat):(⟨b,off,none⟩:Addr).add j=⟨b,off+j,none⟩:=by
 unfold Addr.add
 split
 ·rename_i h;subst h;rfl
 ·rfl
theorem Qm (w:World) (l:List Value) (t:TypeId):∀ j u,l[j]? =some u→(w.alloc (.cells l.toArray t)).cell? ((⟨w.heap.size,0,none⟩:Addr).add j)=some u:=by
 intro j u hu
 rw [aaQ,Nat.zero_add,World.cell?_alloc_new]
 simpa using hu
theorem U0 {d':List (VT×Value)} {q:Nat} {a b:VT×Value} (h:∀ (k:Nat) x y,k<q→d'[k]? =some x→d'[k+1]? =some y→jr x.1 y.1≠0) (ha:d'[q]? =some a) (hb:d'[q+1]? =some b) (hab:jr a.1 b.1≠0):∀ (k:Nat) x y,k<q+1→d'[k]? =some x→d'[k+1]? =some y→jr x.1 y.1≠0:=fun k x y hk hx hy=>by
 by_cases e:k=q
 ·subst e
  rw [ha] at hx;rw [hb] at hy
  cases hx;cases hy
  exact hab
 ·exact h k x y (by omega) hx hy
structure Keys (B:Nat) (w:World) (N:Nat) (l:List VT) (j:Nat) (v:Value) (wr:World) (d:List (VT×Value)):Prop where
 len:d.length=j
 keys:d.map (·.1)=(keysOf l).take j
 own:wr.ownsRow w.heap.size 25 5 v d.length (pK d)
 there:v≠ .slice none 0 0
 lists:∀ x∈d,bR B w N x.2 x.1.list
 below:Below w.heap.size w wr
theorem Keys.step {B:Nat} {w:World} {N:Nat} {l:List VT} {j:Nat} {v:Value} {wr:World} {d:List (VT×Value)} (h:Keys B w N l j v wr d) {t:VT} {lv:Value} (ht:l[2*j]? =some t) (hl:bR B w N lv t.list) {he:l.length%2=0} {o:Obj} {v':Value} {w2:World}
 (hown:w2.ownsRow w.heap.size 25 5 v' (d.length+1) (pK d++t.cells lv)) (hgr:(wr.alloc o).grownBy w2 v.ownBlock) (hnil:¬v'= .slice none 0 0):Keys B w N l (j+1) v' w2 (d++[(t,lv)]):=by
 refine ⟨by simp [h.len],?_,by rw [List.length_append,Nb];exact hown,hnil,fun x hx=>?_,?_⟩
 ·have hk:(keysOf l)[j]? =some t:=by rw [kR l j he];exact ht
  rw [List.map_append,h.keys,List.take_add_one,hk]
  rfl
 ·rcases List.mem_append.1 hx with hx|hx
  ·exact h.lists x hx
  ·simp at hx;subst hx;exact hl
 ·refine (h.below.alloc h.below.size _).grown hgr (by have:=h.below.size;simp;omega) fun k hk=>?_
  rcases h.own.2 with ⟨rfl,_⟩|⟨g,cap,cur,rfl,hg,_⟩
  ·simp [Value.ownBlock] at hk
  ·simp [Value.ownBlock] at hk;omega
theorem Yy {N B:Nat} (lv:Value) (l:List VT) (c:Nat) (w:World) (hl:bR B w N lv l) (hB:B≤w.heap.size) (hn:l.length=2*c) (hc:c≤1024):
 Calls Tryz.prog 117 #[lv] w fun r w'=>r= .returned (.bool (kQ l))∧Below w.heap.size w w':=by
 obtain ⟨i0,hi0,hz0,hz1,hz2⟩:=info_parts ae8
 obtain ⟨w1,hmk,hown0,hg0⟩:=run_make_own (P:=Tryz.prog) (w:=w) w.heap.size 23 25 i0 _ 5 Tryz.underlying23 hi0 hz0 hz1 .i64 .i64 c (by rw [hz2];omega) (by unfold maxLen;omega) (Nat.le_refl _)
 have HL:=ajd hl
 obtain ⟨p,cc,rfl⟩:=hl.slice
 have Hn:=ajd hn
 rw [hn] at HL ⊢
 clear hl hn
 go_enter Tryz.func117,Tryz.ntmps117
 go_wp2
 have Yz:Keys B w N l 0 (.slice (some ⟨w.heap.size,0,none⟩) 0 c) w1 []:=⟨rfl,by simp,hown0,by simp,by simp,(Below.refl _ _).grown hg0 (Nat.le_refl _) (by simp)⟩
 clear hmk hown0 hg0
 go_loopw [3,4] (fun v i wr=>∃ (j:Nat) (d:List (VT×Value)),i= .int .i64 (2*(j:Int))∧j≤c∧Keys B w N l j v wr d) (fun _ i _=>2*c-(intOf i).toNat)
 case atStart=>exact ⟨0,[],rfl,Nat.zero_le _,Yz⟩
 case round=>
  obtain ⟨j,d,rfl,hj,HK⟩:=hrel
  have abV:(keysOf l).length=c:=by rw [wh l (by rw [Hn.out];omega),Hn.out];omega
  have HLk:=ajd abV
  clear abV
  by_cases hlt:j<c
  ·cases N with
   |zero=>exact HL.out.elim
   |succ N=>
    rcases HL.out with ⟨h0,_⟩|⟨b,off,c0,hp,jy,_,hel⟩
    ·have:=Hn.out;rw [h0] at this;simp at this;omega
    rw [Hn.out] at hp
    cases hp
    obtain ⟨t,ht⟩:∃ t,l[2*j]? =some t:=⟨_,List.getElem?_eq_getElem (by rw [Hn.out];omega)⟩
    obtain ⟨hf,lv,hat,hl⟩:=hel (2*j) t ht
    obtain ⟨pe,ce,rfl⟩:=hl.slice
    have hbw:=HK.below.mono hB
    have wI:=HK.below.size
    obtain ⟨e0,e1,e2,e3,e4⟩:=hat.below hbw jy
    have hj0:(0:Int)≤2*(j:Int):=by omega
    have hj1:2*(j:Int)<2*(c:Int):=by omega
    have HT:=ajd ht
    have HLe:=ajd hl
    have HO:=ajd HK.own
    have hone:=ahW hl
    have ae9:=ajd hone
    have hdl:=HK.len
    have HKK:=ajd HK
    have hb3:b<wr.heap.size:=by omega
    clear hel hat hl ht HK hone
    have hdj:d.length≤1024:=by omega
    have Hdl:=ajd hdl
    clear hdl
    go_wp2_with (at_builtin;go_must (refine wpList_append_own _ rfl (.tmp 25) (.tmp 30) _ rfl w.heap.size 25 i0 _ 5 64 Tryz.underlying23 hi0 hz0 hz1 hz2 rfl (by decide) u3 d.length (pK d) rfl (HO.out.alloc _) ⟨wr.heap.size,0,none⟩ 1 1 (t.cells (.slice pe t.list.length ce)) rfl rfl ?_ ae9.out ?_ ?_ ?_ ?_))
    ·exact Qm wr (t.cells (.slice pe t.list.length ce)) 25
    ·unfold maxLen;omega
    ·omega
    ·simp;omega
    intro v' w2 hown2 afa hnil
    have hK2:=HKK.out.step (he:=by rw [Hn.out];omega) HT.out (HLe.out.mono (Nat.le_succ _)) hown2 afa hnil
    have Ya:=ajd hK2
    clear hown2 afa hnil hK2
    go_wp2
    go_roundw
    case rel=>exact ⟨j+1,_,by go_num,by omega,Ya.out⟩
    case measure=>simp [intOf];omega
  ·obtain rfl:j=c:=by omega
   rcases Yx HK.own with ⟨h0,_⟩|⟨g,cap,hv,hgb,hgw,hrow,hfz⟩
   ·exact absurd h0 HK.there
   subst hv
   have hdl:=HK.len
   have hkeys:d.map (·.1)=keysOf l:=by rw [HK.keys,←HLk.out,List.take_length]
   have hlw:∀ x∈d,bR w.heap.size wr N x.2 x.1.list:=fun x hx=>((HK.lists x hx).up hB).below HK.below
   have HS:=ajd (Yw g cap d hlw hgb hgw hrow hfz (by omega))
   have EF:=ajd HK.below
   rw [hdl] at HS ⊢
   have abW:=ajd hkeys
   have Hdl:=ajd hdl
   clear hkeys hdl hlw hrow hfz HK hlt
   go_wp2_with (go_at_call 158;refine HS.out.mono ?_;rintro r w2 ⟨rfl,d',hperm,hsort,hrow',hlists',hlen',hb2⟩)
   have hN:kQ l=kQ l:=rfl
   have abX:=ajd hperm
   have abY:=ajd hsort
   have afb:=ajd hrow'
   have YA:=ajd hlists'
   have Hlen:Hid (d'.length=j):=by show d'.length=j;rw [hlen',Hdl.out]
   have Hb2:Hid (Below w.heap.size w w2):=EF.out.trans hb2
   clear hperm hsort hrow' hlists' hlen' hN
   have afc:g<w2.heap.size:=Nat.lt_of_lt_of_le hgw hb2.size
   clear hb2
   go_loopw [5] (fun i wr=>∃ (q:Nat),i= .int .i64 ((q:Int)+1)∧q≤j∧Hid (∀ (k:Nat) x y,k<q→d'[k]? =some x→d'[k+1]? =some y→jr x.1 y.1≠0)∧Below w2.heap.size w2 wr) (fun i _=>j+1-(intOf i).toNat)
   case atStart=>exact ⟨0,rfl,by omega,fun q x y h=>by omega,Below.refl _ _⟩
   case round=>
    obtain ⟨q,rfl,hq,HQ,hb3⟩:=hrel
    have HB3:=ajd hb3
    have hz3:=hb3.size
    by_cases hlt:q+1<j
    ·obtain ⟨⟨x,xv⟩,hx⟩:∃ x,d'[q]? =some x:=⟨_,List.getElem?_eq_getElem (by rw [Hlen.out];omega)⟩
     obtain ⟨⟨y,yv⟩,hy⟩:∃ y,d'[q+1]? =some y:=⟨_,List.getElem?_eq_getElem (by rw [Hlen.out];omega)⟩
     obtain ⟨e0,e1,e2,e3,e4⟩:=(afb.out q _ hx).below hb3 afc
     obtain ⟨f0,f1,f2,f3,f4⟩:=(afb.out (q+1) _ hy).below hb3 afc
     simp only at e0 e1 e2 e3 e4 f0 f1 f2 f3 f4
     have hlx:=YA.out _ (List.mem_of_getElem? hx)
     have hly:=YA.out _ (List.mem_of_getElem? hy)
     simp only at hlx hly
     have EJ:Hid (∀ w',Below wr.heap.size wr w'→bR w.heap.size w' N xv x.list∧bR w.heap.size w' N yv y.list∧w.heap.size≤w'.heap.size):=fun w' h=>
      have hh:Below w.heap.size w2 w':=(hb3.mono Hb2.out.size).trans (h.mono (by have:=Hb2.out.size;omega))
      ⟨hlx.below hh,hly.below hh,by have:=hh.size;have:=Hb2.out.size;omega⟩
     have hi0:(0:Int)≤(q:Int):=by omega
     have hi1:(q:Int)+1<(j:Int):=by omega
     have hi2:(0:Int)≤(q:Int)+1:=by omega
     have hi3:(q:Int)<(j:Int):=by omega
     have hgr:g<wr.heap.size:=by omega
     have gu:Hid (∀ w',Below wr.heap.size wr w'→(Below wr.heap.size wr w'∧
      w'.cell? ⟨g,q*5,none⟩=some (.int .i64 x.kind)∧w'.cell? ⟨g,q*5+1,none⟩=some (.int .u64 x.num)∧w'.cell? ⟨g,q*5+2,none⟩=some (.string x.text)∧w'.cell? ⟨g,q*5+3,none⟩=some xv∧w'.cell? ⟨g,q*5+4,none⟩=some (.int .i64 x.elem)∧
      w'.cell? ⟨g,(q+1)*5,none⟩=some (.int .i64 y.kind)∧w'.cell? ⟨g,(q+1)*5+1,none⟩=some (.int .u64 y.num)∧w'.cell? ⟨g,(q+1)*5+2,none⟩=some (.string y.text)∧w'.cell? ⟨g,(q+1)*5+3,none⟩=some yv∧w'.cell? ⟨g,(q+1)*5+4,none⟩=some (.int .i64 y.elem))):=fun w' h=>
      have k:∀ o,w'.cell? ⟨g,o,none⟩=wr.cell? ⟨g,o,none⟩:=fun o=>h.cell (p:=⟨g,o,none⟩) hgr
      ⟨h,(k _).trans e0,(k _).trans e1,(k _).trans e2,(k _).trans e3,(k _).trans e4,(k _).trans f0,(k _).trans f1,(k _).trans f2,(k _).trans f3,(k _).trans f4⟩
     obtain ⟨X,hX⟩:∃ X,jr x y=X:=⟨_,rfl⟩
     have HX:=ajd hX
     have Hx:=ajd hx
     have Hy:=ajd hy
     have HC:Hid (∀ w',Below wr.heap.size wr w'→Calls Tryz.prog 159 #[.agg #[.int .i64 x.kind,.int .u64 x.num,.string x.text,xv,.int .i64 x.elem],.agg #[.int .i64 y.kind,.int .u64 y.num,.string y.text,yv,.int .i64 y.elem]] w' fun r w''=>r= .returned (.int .i64 X)∧bz w' w''):=fun w' h=>by
      have hh:=EJ.out w' h
      have:=EI (ae7 N) w.heap.size x.kind x.num x.text x.elem x.list xv y.kind y.num y.text y.elem y.list yv w' hh.1 hh.2.1 hh.2.2
      rwa [VT.eta,VT.eta,hX] at this
     clear hx hy hX hlx hly EJ hb3
     have hw1:IntKind.i64.wrap ((q:Int)+1-1)=(q:Int):=by rw [IntKind.wrap_i64];omega
     have hw2:IntKind.i64.wrap (q:Int)=(q:Int):=by rw [IntKind.wrap_i64];omega
     have hw3:((q:Int)+1).toNat=q+1:=by omega
     go_wp2
     go_region_held3 (fun w'=>Below wr.heap.size wr w'∧
      w'.cell? ⟨g,q*5,none⟩=some (.int .i64 x.kind)∧w'.cell? ⟨g,q*5+1,none⟩=some (.int .u64 x.num)∧w'.cell? ⟨g,q*5+2,none⟩=some (.string x.text)∧w'.cell? ⟨g,q*5+3,none⟩=some xv∧w'.cell? ⟨g,q*5+4,none⟩=some (.int .i64 x.elem)∧
      w'.cell? ⟨g,(q+1)*5,none⟩=some (.int .i64 y.kind)∧w'.cell? ⟨g,(q+1)*5+1,none⟩=some (.int .u64 y.num)∧w'.cell? ⟨g,(q+1)*5+2,none⟩=some (.string y.text)∧w'.cell? ⟨g,(q+1)*5+3,none⟩=some yv∧w'.cell? ⟨g,(q+1)*5+4,none⟩=some (.int .i64 y.elem))
      (first
        |exact gu.out _ (Below.refl _ _)
        |exact gu.out _ (Below.refl _ _).drew
        |exact gu.out _ ((Below.refl _ _).drew.trans hg4.below)
        |assumption)
      ((go_at_call 159;refine (HC.out _ (Below.refl _ _).drew).mono ?_;rintro r w4 ⟨rfl,hg4⟩))
     have MO:Hid (Below w2.heap.size w2 w4):=HB3.out.trans (((Below.refl _ _).drew.trans hg4.below).mono hz3)
     clear hw1 hw2 hw3 gu HC
     by_cases hn:X=0
     ·have HF:Hid (false=kQ l):=(acp (by rw [Hn.out];omega) (by rw [Hn.out];omega) abX.out abW.out abY.out Hx.out Hy.out (by rw [←hn];exact HX.out)).symm
      subst hn
      go_wp2
      go_ret
      exact ⟨ay HF.out,Hb2.out.trans (MO.out.mono Hb2.out.size)⟩
     ·have hb:(X==0)=false:=by simpa using hn
      have HNN:Hid (¬X=0):=hn
      clear hn
      go_wp2
      go_roundw
      case rel=>exact ⟨q+1,by go_num,by omega,U0 HQ.out Hx.out Hy.out (by show jr x y≠0;rw [HX.out];exact HNN.out),MO.out⟩
      case measure=>simp [intOf];omega
    ·have HF:Hid (true=kQ l):=(ZT (by rw [Hn.out];omega) (by rw [Hn.out];omega) abX.out abW.out abY.out (fun k x y hx hy=>HQ.out k x y (by have:=(List.getElem?_eq_some_iff.1 hy).1;rw [Hlen.out] at this;omega) hx hy)).symm
     go_wp2
     go_ret
     exact ⟨ay HF.out,Hb2.out.trans (HB3.out.mono Hb2.out.size)⟩
theorem aaR {N B:Nat} {lv:Value} {l:List VT} {w:World} (hl:bR B w N lv l) (hB:B≤w.heap.size):
 Calls Tryz.prog 117 #[lv] w fun r w'=>r= .returned (.bool (kQ l))∧Below w.heap.size w w':=by
 by_cases h:l.length%2=0∧l.length≤2048
 ·exact Yy lv l (l.length/2) w hl hB (by omega) (by omega)
 ·have HF:Hid (false=kQ l):=by
   show false=kQ l
   unfold kQ
   by_cases h1:l.length%2=0
   ·have h2:¬l.length≤2048:=fun h2=>h ⟨h1,h2⟩
    simp [h2]
   ·simp [h1]
  obtain ⟨p,c,rfl⟩:=hl.slice
  have hlen:l.length≤9223372036854775807:=hl.len
  clear hl
  by_cases h1:l.length%2=0
  ·have h2:(2048:Int)<(l.length:Int):=by omega
   have h3:((l.length:Int)%2 !=0)=false:=by simp;omega
   clear h h1
   go_enter Tryz.func117,Tryz.ntmps117
   go_wp2
   go_ret
   exact ⟨ay HF.out,Below.refl _ _⟩
  ·have h3:((l.length:Int)%2 !=0)=true:=by simp;omega
   clear h h1
   go_enter Tryz.func117,Tryz.ntmps117
   go_wp2
   go_ret
   exact ⟨ay HF.out,Below.refl _ _⟩
end Go.Proofs.YtmldhjoolebjoaaGreatDoor.Va
namespace Go.Proofs.YtmldhjoolebjoaaGreatDoor.Va
open Go Go.RowKit Nu Uc
theorem ahY (w:World) (k m:Int) (s:ByteArray) (lv:Value) (e:Int) (T:TypeId) (w':World) (h:Below (w.heap.size+1) (w.alloc (.cells #[.int .i64 k,.int .u64 m,.string s,lv,.int .i64 e] T)) w'):
 w'.cell? ⟨w.heap.size,0,none⟩=some (.int .i64 k)∧w'.cell? ⟨w.heap.size,1,none⟩=some (.int .u64 m)∧w'.cell? ⟨w.heap.size,2,none⟩=some (.string s)∧w'.cell? ⟨w.heap.size,3,none⟩=some lv∧w'.cell? ⟨w.heap.size,4,none⟩=some (.int .i64 e):=by
 have key:∀ j u,([.int .i64 k,.int .u64 m,.string s,lv,.int .i64 e]:List Value)[j]? =some u→w'.cell? ⟨w.heap.size,j,none⟩=some u:=fun j u hu=>by
  rw [h.cell (p:=⟨w.heap.size,j,none⟩) (by simp),World.cell?_alloc_new]
  simpa using hu
 exact ⟨key 0 _ rfl,key 1 _ rfl,key 2 _ rfl,key 3 _ rfl,key 4 _ rfl⟩
theorem U6 {N B:Nat} (k m:Int) (s:ByteArray) (lv:Value) (e:Int) (l:List VT) (d:Int) (w:World) (hl:bR B w N lv l) (hB:B≤w.heap.size) (hf:(VT.mk k m s e l).bD) (hT:qL w):
 Calls Tryz.prog 92 #[.agg #[.int .i64 k,.int .u64 m,.string s,lv,.int .i64 e],.int .i64 d] w fun r w'=>r= .returned (.int .i64 (cz (.mk k m s e l) d))∧Below w.heap.size w w':=by
 obtain ⟨p,c,rfl⟩:=hl.slice
 have hlen:l.length≤9223372036854775807:=hl.len
 have HL:=ajd hl
 have hm0:0≤m:=hf.n0
 have hm1:m≤18446744073709551615:=hf.n1
 have hs:s.size≤9223372036854775807:=hf.x1
 have HT:=ajd hT
 clear hl hf hT
 obtain ⟨n,hn⟩:∃ n,l.length=n:=⟨_,rfl⟩
 obtain ⟨R,hR⟩:∃ R,cz (.mk k m s e l) d=R:=⟨_,rfl⟩
 have hR':=hR
 unfold cz at hR'
 simp only [VT.kind,VT.num,VT.text,VT.elem,VT.list,hn] at hR'
 obtain ⟨X1,hX1⟩:∃ X,gU k m s e n=X:=⟨_,rfl⟩
 obtain ⟨X2,hX2⟩:∃ X,iB k m=X:=⟨_,rfl⟩
 obtain ⟨X3,hX3⟩:∃ X,rH k s=X:=⟨_,rfl⟩
 obtain ⟨X4,hX4⟩:∃ X,kQ l=X:=⟨_,rfl⟩
 obtain ⟨X5,hX5⟩:∃ X,rT e l=X:=⟨_,rfl⟩
 rw [hX1,hX2,hX3,hX4,hX5] at hR'
 rw [hR]
 rw [hn] at HL hlen ⊢
 have HR:=ajd hR'
 have HF:Hid (∀ w',Below (w.heap.size+1) (w.alloc (.cells #[.int .i64 k,.int .u64 m,.string s,.slice p n c,.int .i64 e] 25)) w'→bR B w' N (.slice p n c) l∧B≤w'.heap.size∧qL w'∧Below w.heap.size w w'∧w.heap.size+1≤w'.heap.size):=fun w' h=>
  have hb:=oZ h
  ⟨HL.out.below (hb.mono hB),by have:=hb.size;omega,HT.out.below hb,hb,by have:=h.size;simp at this;exact this⟩
 have H1:Hid (∀ w',Calls Tryz.prog 114 #[.agg #[.int .i64 k,.int .u64 m,.string s,.slice p n c,.int .i64 e]] w' fun r w''=>r= .returned (.bool X1)∧Below w'.heap.size w' w''):=fun w'=>by
  have:=UR k m s p n c e w' hlen;rwa [hX1] at this
 have H2:Hid (∀ w',Calls Tryz.prog 115 #[.agg #[.int .i64 k,.int .u64 m,.string s,.slice p n c,.int .i64 e]] w' fun r w''=>r= .returned (.bool X2)∧Below w'.heap.size w' w''):=fun w'=>by
  have:=aaJ k m s (.slice p n c) e w' hm0 hm1;rwa [hX2] at this
 have H3:Hid (∀ w',qL w'→Calls Tryz.prog 116 #[.agg #[.int .i64 k,.int .u64 m,.string s,.slice p n c,.int .i64 e]] w' fun r w''=>r= .returned (.bool X3)∧Below w'.heap.size w' w''):=fun w' h=>by
  have:=Yq k m s (.slice p n c) e w' h hs;rwa [hX3] at this
 have H4:Hid (∀ w',bR B w' N (.slice p n c) l→B≤w'.heap.size→Calls Tryz.prog 117 #[.slice p n c] w' fun r w''=>r= .returned (.bool X4)∧Below w'.heap.size w' w''):=fun w' h h'=>by
  have:=aaR h h';rwa [hX4] at this
 have H5:Hid (∀ w',bR B w' N (.slice p n c) l→B≤w'.heap.size→Calls Tryz.prog 118 #[.agg #[.int .i64 k,.int .u64 m,.string s,.slice p n c,.int .i64 e]] w' fun r w''=>r= .returned (.bool X5)∧Below w'.heap.size w' w''):=fun w' h h'=>by
  have:=UW k m s (.slice p n c) e l w' h h';rw [hX5] at this
  exact this.mono fun _ _ ⟨a,b⟩=>⟨a,b.below⟩
 clear hX1 hX2 hX3 hX4 hX5 hR hR' HL HT hn
 by_cases hk:k<0∨24<k
 ·have HE:Hid (20=R):=by show 20=R;rw [←HR.out,if_pos hk]
  clear HR
  rcases hk with h|h
  all_goals
   go_enter Tryz.func92,Tryz.ntmps92
   go_wp2
   all_goals first
    |(go_ret;exact ⟨ko HE.out,(Below.refl _ _).alloc (Nat.le_refl _) _⟩)
    |(exfalso;omega)
 ·have HR1:Hid ((if 32<d then 26 else if X1 then 25 else if !X2 then 21 else if !X3 then 22 else if k=22∧X4=false then 23 else if k=23∧X5=false then 24 else if k=24∧n≠2 then 27 else 0)=R):=by
   show _=R
   rw [←HR.out,if_neg hk]
  have hk0:0≤k:=by omega
  have hk1:k≤24:=by omega
  clear HR hk
  by_cases hd:32<d
  ·have HE:Hid (26=R):=by show 26=R;rw [←HR1.out,if_pos hd]
   clear HR1
   go_enter Tryz.func92,Tryz.ntmps92
   go_wp2
   go_ret
   exact ⟨ko HE.out,(Below.refl _ _).alloc (Nat.le_refl _) _⟩
  ·have HR2:Hid ((if X1 then 25 else if !X2 then 21 else if !X3 then 22 else if k=22∧X4=false then 23 else if k=23∧X5=false then 24 else if k=24∧n≠2 then 27 else 0)=R):=by
    show _=R
    rw [←HR1.out,if_neg hd]
   clear HR1
   go_enter Tryz.func92,Tryz.ntmps92
   go_wp2_with (fail)
   obtain ⟨W1,hW1⟩:∃ W1,w.alloc (.cells #[.int .i64 k,.int .u64 m,.string s,.slice p n c,.int .i64 e] 25)=W1:=⟨_,rfl⟩
   have BM:Hid (∀ w',Below (w.heap.size+1) W1 w'→(w'.cell? ⟨w.heap.size,0,none⟩=some (.int .i64 k)∧w'.cell? ⟨w.heap.size,1,none⟩=some (.int .u64 m)∧w'.cell? ⟨w.heap.size,2,none⟩=some (.string s)∧w'.cell? ⟨w.heap.size,3,none⟩=some (.slice p n c)∧w'.cell? ⟨w.heap.size,4,none⟩=some (.int .i64 e))):=by rw [←hW1];exact fun w' h=>ahY w k m s (.slice p n c) e _ w' h
   rw [hW1] at HF ⊢
   clear hW1
   refine (H1.out W1).mono ?_
   rintro r w2 ⟨rfl,hb2⟩
   have b2:Hid (Below (w.heap.size+1) W1 w2):=hb2.mono (by have:=(HF.out W1 (Below.refl _ _)).2.2.2.2;exact this)
   cases X1 with
   |true=>
    go_wp2
    go_ret
    exact ⟨ko (by rw [←HR2.out];rfl),(HF.out _ b2.out).2.2.2.1⟩
   |false=>
    clear H1 hb2
    obtain ⟨c0,c1,c2,c3,c4⟩:=BM.out _ b2.out
    go_wp2_with (fail)
    refine (H2.out w2).mono ?_
    rintro r w3 ⟨rfl,hb3⟩
    have b3:Hid (Below (w.heap.size+1) W1 w3):=b2.out.trans (hb3.mono (HF.out _ b2.out).2.2.2.2)
    cases X2 with
    |false=>
     go_wp2
     go_ret
     exact ⟨ko (by rw [←HR2.out];rfl),(HF.out _ b3.out).2.2.2.1⟩
    |true=>
     clear H2 hb3 c0 c1 c2 c3 c4
     obtain ⟨c0,c1,c2,c3,c4⟩:=BM.out _ b3.out
     go_wp2_with (fail)
     refine (H3.out w3 (HF.out _ b3.out).2.2.1).mono ?_
     rintro r w4 ⟨rfl,hb4⟩
     have b4:Hid (Below (w.heap.size+1) W1 w4):=b3.out.trans (hb4.mono (HF.out _ b3.out).2.2.2.2)
     cases X3 with
     |false=>
      go_wp2
      go_ret
      exact ⟨ko (by rw [←HR2.out];rfl),(HF.out _ b4.out).2.2.2.1⟩
     |true=>
      clear H3 hb4 c0 c1 c2 c3 c4
      obtain ⟨c0,c1,c2,c3,c4⟩:=BM.out _ b4.out
      have HR3:Hid ((if k=22∧X4=false then 23 else if k=23∧X5=false then 24 else if k=24∧n≠2 then 27 else 0)=R):=HR2.out
      clear HR2
      by_cases k22:k=22
      ·subst k22
       go_wp2_with (fail)
       refine (H4.out w4 (HF.out _ b4.out).1 (HF.out _ b4.out).2.1).mono ?_
       rintro r w5 ⟨rfl,hb5⟩
       have b5:Hid (Below (w.heap.size+1) W1 w5):=b4.out.trans (hb5.mono (HF.out _ b4.out).2.2.2.2)
       clear c0 c1 c2 c3 c4
       obtain ⟨c0,c1,c2,c3,c4⟩:=BM.out _ b5.out
       cases X4 with
       |false=>
        go_wp2
        go_ret
        exact ⟨ko (by rw [←HR3.out];rfl),(HF.out _ b5.out).2.2.2.1⟩
       |true=>
        go_wp2
        go_ret
        exact ⟨ko (by rw [←HR3.out];simp),(HF.out _ b5.out).2.2.2.1⟩
      ·by_cases k23:k=23
       ·subst k23
        go_wp2_with (fail)
        refine (H5.out w4 (HF.out _ b4.out).1 (HF.out _ b4.out).2.1).mono ?_
        rintro r w5 ⟨rfl,hb5⟩
        have b5:Hid (Below (w.heap.size+1) W1 w5):=b4.out.trans (hb5.mono (HF.out _ b4.out).2.2.2.2)
        clear c0 c1 c2 c3 c4
        obtain ⟨c0,c1,c2,c3,c4⟩:=BM.out _ b5.out
        cases X5 with
        |false=>
         go_wp2
         go_ret
         exact ⟨ko (by rw [←HR3.out];rfl),(HF.out _ b5.out).2.2.2.1⟩
        |true=>
         go_wp2
         go_ret
         exact ⟨ko (by rw [←HR3.out];simp),(HF.out _ b5.out).2.2.2.1⟩
       ·have HR4:Hid ((if k=24∧n≠2 then 27 else 0)=R):=by
         have hh:=HR3.out
         rw [if_neg (fun h=>k22 h.1),if_neg (fun h=>k23 h.1)] at hh
         exact hh
        have h22:(k==22)=false:=by simpa using k22
        have h23:(k==23)=false:=by simpa using k23
        clear HR3 k22 k23
        by_cases k24:k=24
        ·subst k24
         by_cases n2:n=2
         ·subst n2
          go_wp2
          go_ret
          exact ⟨ko (by rw [←HR4.out];simp),(HF.out _ b4.out).2.2.2.1⟩
         ·have hnb:((n:Int)!=2)=true:=by simp;omega
          have HN:=ajd n2
          clear n2
          go_wp2
          go_ret
          exact ⟨ko (by have hh:=HR4.out;simp only [true_and] at hh;rw [if_pos HN.out] at hh;exact hh),(HF.out _ b4.out).2.2.2.1⟩
        ·have h24:(k==24)=false:=by simpa using k24
         have HE:Hid (0=R):=by show 0=R;rw [←HR4.out,if_neg (fun h=>k24 h.1)]
         clear k24 HR4
         go_wp2
         go_ret
         exact ⟨ko HE.out,(HF.out _ b4.out).2.2.2.1⟩
theorem aaS {w W:World} {br:Nat} (h:qL w) (hk:Kc br w W) (h1:0≠br) (h2:1≠br):qL W:=
 ⟨fun c hc=>hk.cell (h.1 c hc) h1,fun i hi=>⟨hk.cell (h.2 i hi).1 h2,hk.cell (h.2 i hi).2 h2⟩⟩
theorem R7 {w:World} (h:qL w):0<w.heap.size∧1<w.heap.size:=by
 have k:∀ {p:Addr} {v:Value},w.cell? p=some v→p.block<w.heap.size:=fun {p v} h=>by
  obtain ⟨cs,T,fr,hh⟩:=Nu.cells_of_cell h
  exact (Array.getElem?_eq_some_iff.1 hh).1
 exact ⟨k (h.1 0 (by decide)),k (h.2 0 (by decide)).1⟩
theorem Hq {N:Nat} (t:VT) (lv:Value) (w:World) (hT:qL w) (hf:t.bD) (hl:bR w.heap.size w N lv t.list) (hn:nodes t≤900000000):
 Calls Tryz.prog 75 #[t.agg lv] w fun r w'=>r= .returned (.int .i64 (aB t 1))∧Kc (w.heap.size+1) w w':=
 Yn (Tb:=qL) (fun N B t lv d W hf hl hB hT=>by
  have:=U6 (N:=N) (B:=B) t.kind t.num t.text lv t.elem t.list d W hl hB (by rw [VT.eta];exact hf) hT
  rw [VT.eta] at this
  exact this) t lv w (fun W hk=>aaS hT hk (by have:=R7 hT;omega) (by have:=R7 hT;omega)) hf hl hn
end Go.Proofs.YtmldhjoolebjoaaGreatDoor.Va
namespace Go.Proofs.YtmldhjoolebjoaaGreatDoor.Va
open Go Go.RowKit Nu Uc Fd Go.Proofs.YtmldhjoolebjoaaGreatDoor.Nm
def Env (w:World):Prop:=(∃ t,w.heap[2]? =some (.cells (Lib.asciiSpaceTab.map fun z=>Value.int .u8 z).toArray t (0,0)))∧qL w
theorem Env.below {w w':World} (h:Env w) (hb:Below w.heap.size w w'):Env w':=by
 obtain ⟨⟨t,h1⟩,h2⟩:=h
 exact ⟨⟨t,(hb.block _ (Array.getElem?_eq_some_iff.1 h1).1).trans h1⟩,h2.below hb⟩
theorem pbool {a b:Bool} (h:a=b):Ending.returned (.bool a)= .returned (.bool b):=by rw [h]
def YC (f:FT) (o:Option Int):Bool:=match o with|some k=>f.kinds.contains k|none=>false
theorem EM (f:FT) (t:VT):bF f t=if f.type=100 then true else if f.type=101 then decide (t.kind=23)&&decide (t.elem=20) else if f.type=102 then YC f (kindOf t) else decide (t.kind=f.type):=rfl
abbrev jJ (f:FT) (kv:Value):Value:= .agg #[.string ⟨f.name.toArray⟩,.int .i64 f.type,kv,.bool f.must,.int .i64 f.dk,.int .u64 f.dn,.string ⟨f.dt.toArray⟩,.slice none 0 0,.int .i64 0]
theorem eY {w:World} {b o:Nat} {f:FT} {kv:Value} (h:Cells w b o (fA f kv)):(Instr.loadAt 121 (.pointer (some ⟨b,o,none⟩))).run Tryz.prog w= .ok (jJ f kv) w:=
 Go.run_loadAt_mid w b o 121 (fA f kv) _ h Tryz.underlying121 rfl (by kernel_rfl)
theorem aG {w:World} {a:Addr} {v:Value} (h:w.cell? a=some v):(Instr.loadAt 3 (.pointer (some a))).run Tryz.prog w= .ok v w:=by
 have:=Tryz.underlying3
 have:=Tryz.sizeOf3
 go_simp
theorem rD {w:World} {a:Addr} {v:Value} (h:w.cell? a=some v):(Instr.loadAt 4 (.pointer (some a))).run Tryz.prog w= .ok v w:=by
 have:=Tryz.underlying4
 have:=Tryz.sizeOf4
 go_simp
theorem EN {w:World} {a:Addr} {v:Value} (h:w.cell? a=some v):(Instr.loadAt 93 (.pointer (some a))).run Tryz.prog w= .ok v w:=by
 have:=Tryz.underlying93
 have:=Tryz.sizeOf93
 go_simp
theorem Qn {lo hi:Nat} {ks:List Int} {kv:Value} {w:World} (h:jq lo hi w kv ks) (k:Int) (hl:ks.length≤1000):
 Calls Tryz.prog 85 #[kv,.int .i64 k] w fun r w'=>(∃ j:Int,r= .returned (.int .i64 j)∧decide (0≤j)=ks.contains k)∧w'=w:=by
 have H:=ajd h
 obtain ⟨p,c,rfl,hu⟩:=h.view
 clear hu h
 obtain ⟨n,hn⟩:∃ n,ks.length=n:=⟨_,rfl⟩
 have Hn:=ajd hn
 rw [hn] at H hl ⊢
 clear hn
 go_enter Tryz.func85,Tryz.ntmps85
 go_wp2
 go_loopw [8] (fun i wr=>∃ j:Nat,i= .int .i64 j∧j≤n∧Hid (∀ (i:Nat) (x:Int),i<j→ks[i]? =some x→x≠k)∧wr=w) (fun i _=>n-(intOf i).toNat)
 case atStart=>exact ⟨0,rfl,Nat.zero_le _,fun i x h=>by omega,rfl⟩
 case round=>
  obtain ⟨j,rfl,hj,HQ,rfl⟩:=hrel
  by_cases hlt:j<n
  ·obtain ⟨x,hx⟩:∃ x,ks[j]? =some x:=⟨_,List.getElem?_eq_getElem (by rw [Hn.out];exact hlt)⟩
   obtain ⟨q,d,e,hv⟩:=H.out.view
   obtain ⟨b,off,rfl,_,hc⟩:=hv j x hx
   simp only [Value.slice.injEq] at e
   obtain ⟨rfl,_,_⟩:=e
   have HX:=ajd hx
   have hj0:(0:Int)≤(j:Int):=by omega
   have hj1:(j:Int)<(n:Int):=by omega
   clear hv hx
   by_cases he:k=x
   ·subst he
    have HE:Hid (decide (0≤(j:Int))=ks.contains k):=by
     show _=_
     have:k∈ks:=List.mem_of_getElem? HX.out
     simp [this]
    go_wp2
    go_ret
    exact ⟨⟨_,rfl,HE.out⟩,rfl⟩
   ·have hne:(k==x)=false:=by simp [he]
    have HN:Hid (∀ (i:Nat) (y:Int),i<j+1→ks[i]? =some y→y≠k):=fun i y hi hy=>by
     rcases Nat.lt_or_ge i j with h|h
     ·exact HQ.out i y h hy
     ·obtain rfl:i=j:=by omega
      rw [HX.out] at hy
      cases hy
      exact fun e=>he e.symm
    clear he
    go_wp2
    go_roundw
    case rel=>exact ⟨j+1,by go_num,by omega,HN.out,trivial⟩
    case measure=>simp [intOf];omega
  ·obtain rfl:j=n:=by omega
   have HE:Hid (decide (0≤(-1:Int))=ks.contains k):=by
    show _=_
    have:k∉ks:=fun h=>by
     obtain ⟨i,hi⟩:=List.getElem?_of_mem h
     exact HQ.out i k (by have:=(List.getElem?_eq_some_iff.1 hi).1;have:=Hn.out;omega) hi rfl
    simp [this]
   go_wp2
   go_ret
   exact ⟨⟨_,rfl,HE.out⟩,rfl⟩
theorem FV {lo hi:Nat} {ks:List Int} {kv:Value} {w:World} (h:jq lo hi w kv ks) (k:Int) (hl:ks.length≤1000):
 Calls Tryz.prog 64 #[kv,.int .i64 k] w fun r w'=>r= .returned (.bool (ks.contains k))∧w'=w:=by
 have HC:=ajd (Qn h k hl)
 clear h
 go_enter Tryz.func64,Tryz.ntmps64
 go_wp2_with (go_at_call 85;refine HC.out.mono ?_;rintro r w2 ⟨⟨j,rfl,hj⟩,rfl⟩;have HJ:=ajd hj;clear hj)
 go_ret
 exact ⟨pbool HJ.out,rfl⟩
attribute [-go_sem] Go.Instr.loadAt Go.Instr.storeAt
theorem EO {lo hi N B:Nat} (f:FT) (kv:Value) (t:VT) (lv:Value) (w:World) (hE:Env w) (hk:jq lo hi w kv f.kinds) (hkl:f.kinds.length≤1000) (hf:t.bD) (hl:bR B w N lv t.list) (hB:B≤w.heap.size):
 Calls Tryz.prog 106 #[jJ f kv,t.agg lv] w fun r w'=>r= .returned (.bool (bF f t))∧Below w.heap.size w w':=by
 obtain ⟨p,c,rfl⟩:=hl.slice
 obtain ⟨W1,hW1⟩:∃ W1,(w.alloc (.cells #[.string ⟨f.name.toArray⟩,.int .i64 f.type,kv,.bool f.must,.int .i64 f.dk,.int .u64 f.dn,.string ⟨f.dt.toArray⟩,.slice none 0 0,.int .i64 0] 121)).alloc (.cells #[.int .i64 t.kind,.int .u64 t.num,.string t.text,.slice p t.list.length c,.int .i64 t.elem] 25)=W1:=⟨_,rfl⟩
 obtain ⟨x1,x2,hz1,hb1⟩:=bK (cs:=fA f kv) (ds:=t.cells (.slice p t.list.length c)) hW1
 obtain ⟨⟨ts,hsp⟩,_⟩:=hE.below hb1
 have l1:=aG (x1.cell (j:=1) rfl)
 have l2:=ag x2.1
 have l3:=aG (x2.cell (j:=0) rfl)
 have l4:=aG (x2.cell (j:=4) rfl)
 have U7:=ajd (MX (N:=N) (B:=B) (d:=t) (v:=t.agg (.slice p t.list.length c)) (w:=W1) ⟨hf,_,rfl,hl.below (hb1.mono hB)⟩ (by omega) hsp)
 have X1:=ajd x1
 have HK1:=ajd (hk.below hb1)
 have HB1:=ajd hb1
 have HW:=ajd (EM f t)
 obtain ⟨R,hR⟩:∃ R,bF f t=R:=⟨_,rfl⟩
 rw [hR] at HW ⊢
 clear hR hl hk hE x1 x2 hb1 hsp hf
 show Calls Tryz.prog 106 #[.agg #[.string ⟨f.name.toArray⟩,.int .i64 f.type,kv,.bool f.must,.int .i64 f.dk,.int .u64 f.dn,.string ⟨f.dt.toArray⟩,.slice none 0 0,.int .i64 0],.agg #[.int .i64 t.kind,.int .u64 t.num,.string t.text,.slice p t.list.length c,.int .i64 t.elem]] w _
 by_cases h100:f.type=100
 ·have HE:Hid (R=true):=HW.out.trans (if_pos h100)
  rw [h100] at l1 hW1 ⊢
  go_enter Tryz.func106,Tryz.ntmps106
  go_wp2
  go_ret
  exact ⟨pbool HE.out.symm,HB1.out⟩
 by_cases h101:f.type=101
 ·have HE:Hid (R=(decide (t.kind=23)&&decide (t.elem=20))):=HW.out.trans (by rw [if_neg h100,if_pos h101])
  rw [h101] at l1 hW1 ⊢
  go_enter Tryz.func106,Tryz.ntmps106
  go_wp2
  all_goals
   go_ret
   exact ⟨pbool (by rw [HE.out];clear HE HW;first|(simp_all;done)|(by_cases h:t.elem=20<;>simp_all)),HB1.out⟩
 by_cases h102:f.type=102
 ·obtain ⟨o,ho⟩:∃ o,kindOf t=o:=⟨_,rfl⟩
  have HE:Hid (R=YC f o):=HW.out.trans (by rw [if_neg h100,if_neg h101,if_pos h102,ho])
  rw [ho] at U7
  rw [h102] at l1 hW1 ⊢
  clear ho
  go_enter Tryz.func106,Tryz.ntmps106
  go_wp2_with (fail)
  refine U7.out.mono ?_
  rintro r w2 ⟨rfl,hb2⟩
  have HB2:=ajd (HB1.out.trans (hb2.mono (by omega)))
  have Ya:=ajd (HK1.out.below hb2)
  have l5:=EN ((X1.out.below hb2 (by omega)).cell (j:=2) rfl)
  clear hb2 l1 l2 l3 l4
  cases o with
  |none=>
   unfold lN
   go_wp2
   go_ret
   exact ⟨pbool HE.out.symm,HB2.out⟩
  |some k=>
   have VJ:=ajd (FV Ya.out k hkl)
   obtain ⟨X,hX⟩:∃ X,f.kinds.contains k=X:=⟨_,rfl⟩
   have HE2:Hid (R=X):=by rw [←hX];exact HE.out
   rw [hX] at VJ
   obtain ⟨kp,kc,rfl,hu⟩:=Ya.out.view
   clear hu hX
   unfold lN
   go_wp2_with (go_at_call 64;refine VJ.out.mono ?_;rintro r w3 ⟨rfl,rfl⟩)
   go_ret
   exact ⟨pbool HE2.out.symm,HB2.out⟩
 ·have HE:Hid (R=decide (t.kind=f.type)):=HW.out.trans (by rw [if_neg h100,if_neg h101,if_neg h102])
  have l6:=aG (X1.out.cell (j:=1) rfl)
  go_enter Tryz.func106,Tryz.ntmps106
  go_wp2
  go_ret
  exact ⟨pbool (by rw [HE.out];by_cases h:t.kind=f.type<;>simp [h]),HB1.out⟩
end Go.Proofs.YtmldhjoolebjoaaGreatDoor.Va
namespace Go.Proofs.YtmldhjoolebjoaaGreatDoor.Va
open Go Go.RowKit Nu Uc Fd Go.Proofs.YtmldhjoolebjoaaGreatDoor.Nm
attribute [-go_sem] Go.Instr.loadAt Go.Instr.storeAt
def bG (a:Except Int VT) (w:World) (r:Ending) (w':World):Prop:=
 Below w.heap.size w w'∧match a with
  | .ok y=>∃ lv us,r= .returned (.tuple #[y.agg lv,.int .i64 0])∧y.bD∧OL w' LV lv y.list us∧ku w.heap.size w'.heap.size us∧aM us
  | .error e=>r= .returned (.tuple #[ah.agg (.slice none 0 0),.int .i64 e])
def JD (f:FT):Value:=if f.type=102 then .func (.func 122) #[] #[] else .func (.func 123) #[] #[]
theorem dD (f:FT) (kv:Value) (w:World):Calls Tryz.prog 96 #[.agg #[.string ⟨f.name.toArray⟩,.int .i64 f.type,kv,.bool f.must,.int .i64 f.dk,.int .u64 f.dn,.string ⟨f.dt.toArray⟩,.slice none 0 0,.int .i64 0]] w fun r w'=>r= .returned (JD f)∧Below w.heap.size w w':=by
 obtain ⟨W1,hW1⟩:∃ W1,w.alloc (.cells #[.string ⟨f.name.toArray⟩,.int .i64 f.type,kv,.bool f.must,.int .i64 f.dk,.int .u64 f.dn,.string ⟨f.dt.toArray⟩,.slice none 0 0,.int .i64 0] 121)=W1:=⟨_,rfl⟩
 obtain ⟨x1,hz1,hb1⟩:=aH (cs:=fA f kv) hW1
 have l1:=aG (x1.cell (j:=1) rfl)
 have HB1:=ajd hb1
 clear x1 hb1
 by_cases h:f.type=102
 ·have HR:Hid (JD f= .func (.func 122) #[] #[]):=if_pos h
  have heq:(f.type==102)=true:=by simp [h]
  clear h
  go_enter Tryz.func96,Tryz.ntmps96
  go_wp2
  go_ret
  exact ⟨by rw [HR.out];rfl,HB1.out⟩
 ·have HR:Hid (JD f= .func (.func 123) #[] #[]):=if_neg h
  have hne:(f.type==102)=false:=by simp [h]
  clear h
  go_enter Tryz.func96,Tryz.ntmps96
  go_wp2
  go_ret
  exact ⟨by rw [HR.out];rfl,HB1.out⟩
theorem az {P:Program} {fn:Func} {p q:Tmp} {ty:TypeId} {tmps:Array Value} {w:World} {g:Nat} {v u:Value} (h:fn.results= #[.cell p ty,.tmp q]) (hp:tmps.getD p undef= .pointer (some ⟨g,0,none⟩)) (hld:(loadVar ty ⟨g,0,none⟩).run P w= .ok v w) (hq:tmps.getD q undef=u):
 (results fn tmps).run P w= .ok (.tuple #[v,u]) w:=by
 have hp':tmps[p]?.getD undef= .pointer (some ⟨g,0,none⟩):=by simpa using hp
 have hq':tmps[q]?.getD undef=u:=by simpa using hq
 simp [results,h,hp',asAddr,hld,hq']
theorem uO {N B:Nat} (t:VT) (lv:Value) (w:World) (hf:t.bD) (hl:bR B w N lv t.list) (hB:B≤w.heap.size) (hn:nodes t≤900000000):
 Calls Tryz.prog 123 #[t.agg lv] w fun r w'=>bG (.ok t) w r w':=by
 obtain ⟨p,c,rfl⟩:=hl.slice
 obtain ⟨W1,hW1⟩:∃ W1,(w.alloc (.cells #[.int .i64 t.kind,.int .u64 t.num,.string t.text,.slice p t.list.length c,.int .i64 t.elem] 25)).alloc (.cells #[.int .i64 0,.int .u64 0,.string ⟨#[]⟩,.slice none 0 0,.int .i64 0] 25)=W1:=⟨_,rfl⟩
 obtain ⟨x1,x2,hz1,hb1⟩:=bK (cs:=t.cells (.slice p t.list.length c)) (ds:=ah.cells (.slice none 0 0)) hW1
 have l0:=ag x1.1
 have HC:=ajd (copies N B t (.slice p t.list.length c) W1 hf (hl.below (hb1.mono hB)) (by omega) hn)
 have X2:=ajd x2
 have HB1:=ajd hb1
 have HF:=ajd hf
 clear hl x1 x2 hb1 hf
 go_enter Tryz.func123,Tryz.ntmps123
 go_wp2_with (fail)
 clear hW1 l0
 refine HC.out.mono ?_
 rintro r w2 ⟨lv2,us,rfl,ho,hbk,hap,hb2⟩
 obtain ⟨q5,c5,rfl⟩:=ho.slice
 have x2:=X2.out.below hb2 (by omega)
 have hst:=aD (t:=t) (a:=q5) (n:=t.list.length) (c:=c5) (x2.part (o:=0) (n:=5) (Nat.le_refl _))
 have y2:=x2.all (vs:=t.cells (.slice q5 t.list.length c5)) rfl
 have yb:Below w.heap.size w (w2.setCells (w.heap.size+1) 0 (t.cells (.slice q5 t.list.length c5))):=(HB1.out.trans (hb2.mono (by omega))).trans (au (by omega) _ _)
 have yo:OL (w2.setCells (w.heap.size+1) 0 (t.cells (.slice q5 t.list.length c5))) N (.slice q5 t.list.length c5) t.list us:=ho.heap (by rw [aC];exact Nat.le_refl _) fun u hu b hb=>aA (by have:=hbk u hu b hb;omega) _ _
 have yk:ku w.heap.size (w2.setCells (w.heap.size+1) 0 (t.cells (.slice q5 t.list.length c5))).heap.size us:=by rw [aC];exact hbk.mono (by omega) (Nat.le_refl _)
 obtain ⟨X,hX⟩:∃ X,w2.setCells (w.heap.size+1) 0 (t.cells (.slice q5 t.list.length c5))=X:=⟨_,rfl⟩
 rw [hX] at hst y2 yb yo yk
 have iJ:=ajd (bB y2.1)
 have HQ:Hid (Below w.heap.size w X∧t.bD∧OL X LV (.slice q5 t.list.length c5) t.list us∧ku w.heap.size X.heap.size us∧aM us):=⟨yb,HF.out,yo.lvN (by have:=aX t;unfold LV;omega),yk,hap⟩
 clear ho hbk hap hb2 x2 y2 yb yo yk hX
 go_wp2
 exact bodyPost_ret_by (az rfl rfl iJ.out rfl) rfl ⟨HQ.out.1,_,us,rfl,HQ.out.2⟩
end Go.Proofs.YtmldhjoolebjoaaGreatDoor.Va
