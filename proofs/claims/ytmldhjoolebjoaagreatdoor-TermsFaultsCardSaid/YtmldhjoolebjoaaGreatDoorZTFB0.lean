/-
  The texts V1 V2 L1 L2 L3 Y8 ShU W0 P1 P2 Nm1 F1 of this claim, one behind the other.
-/
import Derived.Test.YtmldhjoolebjoaaGreatDoorProg
import Derived.Test.YtmldhjoolebjoaaGreatDoorZTFA0
import Derived.Deep.Slices
import Derived.Deep.Fields
import Derived.ChangeSame
import Derived.SizedLaws
import Derived.ProofKit
import Derived.WalkSpells
import Derived.WalkLawsBesides
import Derived.Deep.Light
import Derived.Lib.Hide
import Derived.Laws.MakeOwn
import Derived.Laws.NewBlocks
import Derived.Deep.RegionHeld3
import Derived.Deep.DrawnRows
import Derived.Shelf.Unicode.DecodeAny
import Derived.Shelf.Small.Strs
import Derived.Shelf.SlSortCmp.WholeK
import Derived.Shelf.SlSortCmp.NoneTotal
import Derived.Shelf.SlicesQ.IndexFunc
import Derived.Shelf.SlicesE.Clone
import Derived.WalkKit
import Derived.RangeFuncKeeps
import Derived.RangeFuncBound
import Derived.RangeFuncLeaves
import Derived.Shelf.Abstract
import Derived.OwnWalkIn
import Derived.TacticsInMore
import Derived.RangeFuncNested
import Derived.RangeFuncCalls
import Derived.LoopNIn
import Derived.LoopIn
import Derived.Laws.AppendOwn
import Derived.Laws.AppendOwnNone
import Derived.OwnWalk
import Derived.Test.YtmldhjoolebjoaaGreatDoorZTFA9
import Derived.Lib.Space
import Derived.KernelRfl
import Derived.MapKept
set_option maxHeartbeats 40000000
set_option maxRecDepth 100000
noncomputable section
namespace Go.Proofs.YtmldhjoolebjoaaGreatDoor.Va
open Go Go.RowKit Go.ChangeShapes Go.WideShapes Go.Deep Nu
def vM:Array Field:=match Tryz.prog.underlying 25 with|some (.struct fs)=>fs|_=>#[]
theorem acP:Tryz.prog.underlying 25=some (.struct vM):=by kernel_rfl
theorem abN:vM.size=5:=by kernel_rfl
theorem acQ:Tryz.prog.cellsOf 25=5:=by kernel_rfl
theorem ahD:oneCellFields Tryz.prog vM=true:=by kernel_rfl
theorem acR:vM.toList.map (·.type)=[3,22,9,23,3]:=by kernel_rfl
theorem acS (j:Nat) (t:TypeId) (h:[3,22,9,23,3][j]? =some t):∃ f:Field,vM[j]? =some f∧f.type=t:=by
 rw [←acR,List.getElem?_map] at h
 rw [Array.getElem?_toList] at h
 cases hf:vM[j]? with
 |none=>rw [hf] at h;cases h
 |some f=>rw [hf] at h;exact ⟨f,rfl,by simpa using h⟩
theorem RQ {α:Type} {Q:Nat→α→Prop}:∀ n:Nat,(∀ i,i<n→∃ e,Q i e)→∃ es:List α,es.length=n∧∀ i e,es[i]? =some e→Q i e
 |0,_=>⟨[],rfl,fun i e h=>by simp at h⟩
 |n+1,h=>by
  obtain ⟨es,hl,he⟩:=RQ n fun i hi=>h i (by omega)
  obtain ⟨e,hq⟩:=h n (by omega)
  refine ⟨es++[e],by simp [hl],fun i x hx=>?_⟩
  rcases Nat.lt_or_ge i es.length with hi|hi
  ·rw [List.getElem?_append_left hi] at hx
   exact he i x hx
  ·rw [List.getElem?_append_right hi] at hx
   have:i-es.length=0:=by
    have:=(List.getElem?_eq_some_iff.1 hx).1
    simp at this
    omega
   rw [this] at hx
   simp at hx
   subst hx
   obtain rfl:i=n:=by omega
   exact hq
section
variable {H:Type} {enc:TypeId×Value→H} {w:World} {base:Nat} {spare:Nat→Bool} {held:Bool}
theorem wf_i64 {k:Int} (h:(Lit.int .i64 k).wf=true): -9223372036854775808≤k∧k≤9223372036854775807:=by
 have h':(decide (IntKind.i64.min≤k)&&decide (k≤IntKind.i64.max))=true:=h
 simp only [Bool.and_eq_true,decide_eq_true_eq] at h'
 exact h'
theorem wf_u64 {k:Int} (h:(Lit.int .u64 k).wf=true):0≤k∧k≤18446744073709551615:=by
 have h':(decide (IntKind.u64.min≤k)&&decide (k≤IntKind.u64.max))=true:=h
 simp only [Bool.and_eq_true,decide_eq_true_eq] at h'
 exact h'
theorem Eu {cs:List Value} {n:Nat} {x:DataW H×List MemPlace} (h:DataW.trod enc Tryz.prog w base spare held n 25 cs=some x) (hl:cs.length=5):
 ∃ (k m:Int) (s:ByteArray) (lv:Value) (e:Int) (n':Nat) (y:DataW H×List MemPlace),n=n'+1∧cs=[.int .i64 k,.int .u64 m,.string s,lv,.int .i64 e]∧(∀ l,(VT.mk k m s e l).bD)∧DataW.trod enc Tryz.prog w base spare held n' 23 [lv]=some y:=by
 obtain ⟨ys,n',hn',hy,hlen,hyl,hf⟩:=DataW.trod_struct acP h
 have one:∀ (j:Nat) (t:TypeId),[3,22,9,23,3][j]? =some t→∃ v y,cs[j]? =some v∧DataW.trod enc Tryz.prog w base spare held n' t [v]=some y:=by
  intro j t ht
  obtain ⟨f,hj,rfl⟩:=acS j t ht
  obtain ⟨ho,hk⟩:=hone_of ahD j f hj
  have hjl:j<5:=by rw [←abN];exact (Array.getElem?_eq_some_iff.1 hj).1
  have h1:=hf j f hj
  rw [ho,hk] at h1
  have hone':(cs.drop j).take 1=[cs[j]'(by omega)]:=by
   rw [List.drop_eq_getElem_cons (by omega)]
   rfl
  rw [hone'] at h1
  have hys:ys[j]? =some (ys[j]'(by rw [hyl,abN];omega)):=List.getElem?_eq_getElem _
  exact ⟨_,_,List.getElem?_eq_getElem (by omega),h1.trans hys⟩
 obtain ⟨v0,y0,e0,t0⟩:=one 0 3 rfl
 obtain ⟨v1,y1,e1,t1⟩:=one 1 22 rfl
 obtain ⟨v2,y2,e2,t2⟩:=one 2 9 rfl
 obtain ⟨v3,y3,e3,t3⟩:=one 3 23 rfl
 obtain ⟨v4,y4,e4,t4⟩:=one 4 3 rfl
 obtain ⟨k0,hk0,_,w0⟩:=DataW.trod_int Tryz.underlying3 t0
 obtain ⟨k1,hk1,_,w1⟩:=DataW.trod_int Tryz.underlying22 t1
 obtain ⟨k2,hk2,_,w2⟩:=DataW.trod_string Tryz.underlying9 t2
 obtain ⟨k4,hk4,_,w4⟩:=DataW.trod_int Tryz.underlying3 t4
 simp only [List.cons.injEq,and_true] at hk0 hk1 hk2 hk4
 subst hk0 hk1 hk2 hk4
 refine ⟨k0,k1,k2,v3,k4,n',y3,hn',?_,fun l=>⟨(wf_i64 w0).1,(wf_i64 w0).2,(wf_u64 w1).1,(wf_u64 w1).2,(wf_i64 w4).1,(wf_i64 w4).2,w2⟩,t3⟩
 match cs,hl with
 |[a0,a1,a2,a3,a4],_=>
  simp at e0 e1 e2 e3 e4
  simp [e0,e1,e2,e3,e4]
theorem add_plain (b off j:Nat):(⟨b,off,none⟩:Addr).add j=⟨b,off+j,none⟩:=by
 unfold Addr.add
 split
 ·rename_i h;subst h;rfl
 ·rfl
theorem lt_of_cell {b o:Nat} {v:Value} (h:w.cell? ⟨b,o,none⟩=some v):b<w.heap.size:=by
 rcases Nat.lt_or_ge b w.heap.size with h'|h'
 ·exact h'
 ·exfalso
  unfold World.cell? at h
  rw [show w.heap[b]? =none from Array.getElem?_eq_none h'] at h
  cases h
theorem open_list:∀ {fuel:Nat} {v:Value} {x:DataW H×List MemPlace},DataW.trod enc Tryz.prog w base spare held fuel 23 [v]=some x→∃ ts,bR w.heap.size w (fuel+1) v ts:=by
 intro fuel
 induction fuel using Nat.strongRecOn with
 |_ fuel ih=>
  intro v x h
  rcases DataW.trod_slice Tryz.underlying23 h with ⟨he,_⟩|⟨a,len,cap,elems,rest,n,hn,he,_,_,hlc,hcm,hlen,hel,_,_⟩
  ·simp only [List.cons.injEq,and_true] at he
   exact ⟨[],.inl ⟨rfl,_,_,he⟩⟩
  ·simp only [List.cons.injEq,and_true] at he
   rcases Nat.eq_zero_or_pos len with h0|hpos
   ·subst h0;exact ⟨[],.inl ⟨rfl,_,_,he⟩⟩
   ·have key:∀ i,i<len→∃ t:VT,t.bD∧∃ lv,(∀ j u,(t.cells lv)[j]? =some u→w.cell? (a.add (i*5+j))=some u)∧bR w.heap.size w fuel lv t.list:=by
     intro i hi
     have h1:=hel i hi
     rw [List.getElem?_eq_getElem (by omega)] at h1
     obtain ⟨cs',hc,ht'⟩:=Option.bind_eq_some_iff.1 h1
     rw [acQ] at hc
     obtain ⟨_,hcl,hat⟩:=World.cells?_some hc
     obtain ⟨k,m,s,lv,e,n',y,hnn,rfl,XX,hlist⟩:=Eu ht' hcl
     obtain ⟨ts,hts⟩:=ih n' (by omega) hlist
     refine ⟨.mk k m s e ts,XX ts,lv,fun j u hu=>?_,hts.mono (by omega)⟩
     have hj:j<5:=by
      have:=(List.getElem?_eq_some_iff.1 hu).1
      simpa [VT.cells] using this
     rw [←Go.Deep.add_add,hat j hj]
     exact hu
    obtain ⟨ts,htl,hts⟩:=RQ len key
    have hsp:a.spot=none:=by
     obtain ⟨t,ht⟩:∃ t,ts[0]? =some t:=⟨_,List.getElem?_eq_getElem (by omega)⟩
     obtain ⟨_,lv,hc,_⟩:=hts 0 t ht
     have:=hc 0 _ rfl
     simpa [Addr.add] using World.cell?_spot this
    obtain ⟨b,off,spot⟩:=a
    simp only at hsp
    subst hsp
    have hat:∀ i t,ts[i]? =some t→t.bD∧∃ lv,pO w b (off+i*5) t lv∧bR w.heap.size w fuel lv t.list:=fun i t ht=>by
     obtain ⟨hf,lv,hc,hl⟩:=hts i t ht
     have k:∀ j u,(t.cells lv)[j]? =some u→w.cell? ⟨b,off+i*5+j,none⟩=some u:=fun j u hu=>by
      have:=hc j u hu
      rwa [add_plain,show off+(i*5+j)=off+i*5+j by omega] at this
     exact ⟨hf,lv,⟨k 0 _ rfl,k 1 _ rfl,k 2 _ rfl,k 3 _ rfl,k 4 _ rfl⟩,hl⟩
    refine ⟨ts,.inr ⟨b,off,cap,by rw [htl];exact he,?_,by omega,hat⟩⟩
    obtain ⟨t,ht⟩:∃ t,ts[0]? =some t:=⟨_,List.getElem?_eq_getElem (by omega)⟩
    obtain ⟨_,lv,hc,_⟩:=hat 0 t ht
    exact lt_of_cell hc.kind
end
end Go.Proofs.YtmldhjoolebjoaaGreatDoor.Va
namespace Go.Proofs.YtmldhjoolebjoaaGreatDoor.Va
open Go Go.RowKit Nu
theorem dA {k:IntKind} {a b:Int} (h:a=b):Ending.returned (.int k a)= .returned (.int k b):=by rw [h]
theorem ay {a b:Bool} (h:a=b):Ending.returned (.bool a)= .returned (.bool b):=by rw [h]
theorem oZ {w wr:World} {o:Obj} (h:Below (w.heap.size+1) (w.alloc o) wr):Below w.heap.size w wr:=((Below.refl _ _).alloc (Nat.le_refl _) _).trans (h.mono (by omega))
theorem UD:∀ (N B:Nat) (k m:Int) (s:ByteArray) (e:Int) (l:List VT) (lv:Value) (n:Nat) (w:World),bR B w N lv l→B≤w.heap.size→s.size≤9223372036854775807→n≤100000→
 Calls Tryz.prog 20 #[.agg #[.int .i64 k,.int .u64 m,.string s,lv,.int .i64 e],.int .i64 n] w fun r w'=>r= .returned (.int .i64 (qK l (n+1+s.size/64):Nat))∧Below w.heap.size w w':=by
 intro N
 induction N with
 |zero=>intro B k m s e l lv n w h;exact h.elim
 |succ N ih=>
  intro B k m s e l lv n w hl hB hx hn
  have HL:=ajd hl
  obtain ⟨p,c,rfl⟩:=hl.slice
  have hlen:=hl.len
  clear hl
  have hlen:l.length≤9223372036854775807:=hlen
  go_enter Tryz.func20,Tryz.ntmps20
  go_wp2
  obtain ⟨W1,hW1⟩:∃ W1,w.alloc (.cells #[.int .i64 k,.int .u64 m,.string s,.slice p l.length c,.int .i64 e] 25)=W1:=⟨_,rfl⟩
  have HW1:=ajd hW1
  have hz1:W1.heap.size=w.heap.size+1:=by rw [←hW1];simp
  have hc2:W1.cell? ⟨w.heap.size,2,none⟩=some (.string s):=by rw [←hW1];simp
  have hc3:W1.cell? ⟨w.heap.size,3,none⟩=some (.slice p l.length c):=by rw [←hW1];simp
  rw [hW1]
  clear hW1
  go_loopw [1,5] (fun v i wr=>∃ (j q:Nat),v= .int .i64 q∧i= .int .i64 j∧j≤l.length∧Hid (qK (l.drop j) q=qK l (n+1+s.size/64))∧Below (w.heap.size+1) W1 wr) (fun _ i _=>l.length-(intOf i).toNat)
  case atStart=>exact ⟨0,n+1+s.size/64,by go_num,rfl,Nat.zero_le _,rfl,Below.refl _ _⟩
  case round=>
   obtain ⟨j,q,rfl,rfl,hj,HQ,hb⟩:=hrel
   have d3:wr.cell? ⟨w.heap.size,3,none⟩=some (.slice p l.length c):=(hb.cell (p:=⟨w.heap.size,3,none⟩) (by simp)).trans hc3
   have hend:∀ (q':Nat),¬j<l.length∨100000<q→Hid (qK (l.drop j) q=qK l (n+1+s.size/64))→(q:Int)=(qK l (n+1+s.size/64):Nat):=fun _ h h'=>by
    have:=h'.out
    rcases h with h|h
    ·obtain rfl:j=l.length:=by omega
     rw [QZ] at this;omega
    ·rw [QY _ h] at this;omega
   have hE:=ajd hend;clear hend
   by_cases hlt:j<l.length
   ·by_cases hq:q≤100000
    ·rcases HL.out with ⟨h0,_⟩|⟨b,off,c',hp,jy,_,hel⟩
     ·rw [h0] at hlt;exact absurd hlt (by simp)
     ·cases hp
      obtain ⟨t,ht⟩:∃ t,l[j]? =some t:=⟨_,List.getElem?_eq_getElem hlt⟩
      obtain ⟨hf,lv,hat,hl⟩:=hel j t ht
      have hbw:Below B w wr:=(oZ (o:= .cells #[.int .i64 k,.int .u64 m,.string s,.slice (some ⟨b,off,none⟩) l.length c,.int .i64 e] 25) (by rw [HW1.out];exact hb)).mono hB
      obtain ⟨e0,e1,e2,e3,e4⟩:=hat.below hbw jy
      have hl':=ajd (hl.below hbw)
      have wI:w.heap.size+1≤wr.heap.size:=by have:=hb.size;omega
      have hst:=ajd (Kh ht hq)
      have hwt:=ajd (VY t q)
      clear hel hl hat
      have htx:t.text.size≤9223372036854775807:=hf.x1
      clear ht
      go_wp2_with (go_at_call 20;refine (ih B t.kind t.num t.text t.elem t.list lv q wr hl'.out (by omega) htx hq).mono ?_;rintro r w2 ⟨rfl,hb2⟩)
      go_roundw
      case rel=>exact ⟨j+1,_,rfl,by go_num,by omega,by rw [←hwt.out,←hst.out];exact HQ.out,hb.trans (hb2.mono (by omega))⟩
      case measure=>simp [intOf];omega
    ·go_wp2
     go_ret
     exact ⟨dA (hE.out q (.inr (by omega)) HQ),oZ (by rw [HW1.out];exact hb)⟩
   ·go_wp2
    all_goals
     go_ret
     exact ⟨dA (hE.out q (.inl hlt) HQ),oZ (by rw [HW1.out];exact hb)⟩
theorem UE {N B:Nat} {t:VT} {v:Value} {n:Nat} {w:World} (h:Zu B w N v t) (hB:B≤w.heap.size) (hn:n≤100000):
 Calls Tryz.prog 20 #[v,.int .i64 n] w fun r w'=>r= .returned (.int .i64 (wt t n:Nat))∧Below w.heap.size w w':=by
 obtain ⟨hf,lv,rfl,hl⟩:=h
 rw [VY]
 exact UD N B _ _ _ _ _ lv n w hl hB hf.x1 hn
def abO (N:Nat):Prop:=∀ (B:Nat) (lv:Value) (l:List VT) (w:World),bR B w N lv l→VZ l→B≤w.heap.size→
    Calls Tryz.prog 52 #[lv] w fun r w'=>∃ v',r= .returned v'∧aW w' N w.heap.size w'.heap.size v' l∧Below w.heap.size w w'
theorem mg (w:World) (o:Obj):(w.alloc o).heap.size=w.heap.size+1:=Array.size_push ..
theorem MH (w:World) (o:Obj):(w.alloc o).heap[w.heap.size]? =some o:=by
 show (w.heap.push o)[w.heap.size]? =some o
 simp
theorem rA (w:World) (o o':Obj):Below w.heap.size w ((w.alloc o).alloc o'):=((Below.refl _ _).alloc (Nat.le_refl _) _).alloc (by rw [mg];omega) _
theorem XY (w:World) (a0 a1 a2 a3 a4 z0 z1 z2 z3 z4:Value) (T:TypeId) (w':World) (hb:Below (w.heap.size+2) ((w.alloc (.cells #[a0,a1,a2,a3,a4] T)).alloc (.cells #[z0,z1,z2,z3,z4] T)) w'):
 (w'.cell? ⟨w.heap.size,0,none⟩=some a0∧w'.cell? ⟨w.heap.size,1,none⟩=some a1∧w'.cell? ⟨w.heap.size,2,none⟩=some a2∧w'.cell? ⟨w.heap.size,3,none⟩=some a3∧w'.cell? ⟨w.heap.size,4,none⟩=some a4∧w'.frozen? ⟨w.heap.size,3,none⟩=false)∧
 (w'.cell? ⟨w.heap.size+1,0,none⟩=some z0∧w'.cell? ⟨w.heap.size+1,1,none⟩=some z1∧w'.cell? ⟨w.heap.size+1,2,none⟩=some z2∧w'.cell? ⟨w.heap.size+1,3,none⟩=some z3∧w'.cell? ⟨w.heap.size+1,4,none⟩=some z4)∧
 (w'.frozen? ⟨w.heap.size+1,0,none⟩=false∧w'.frozen? ⟨w.heap.size+1,1,none⟩=false∧w'.frozen? ⟨w.heap.size+1,2,none⟩=false∧w'.frozen? ⟨w.heap.size+1,3,none⟩=false∧w'.frozen? ⟨w.heap.size+1,4,none⟩=false)∧
 w'.heap[w.heap.size+1]? =some (.cells #[z0,z1,z2,z3,z4] T (0,0)):=by
 have h0:w'.heap[w.heap.size]? =some (.cells #[a0,a1,a2,a3,a4] T (0,0)):=(hb.block _ (by omega)).trans ((Below.heap_alloc _ _ _ (by rw [mg];omega)).trans (MH _ _))
 have h1:w'.heap[w.heap.size+1]? =some (.cells #[z0,z1,z2,z3,z4] T (0,0)):=(hb.block _ (by omega)).trans (by rw [←mg w];exact MH _ _)
 refine ⟨⟨?_,?_,?_,?_,?_,?_⟩,⟨?_,?_,?_,?_,?_⟩,⟨?_,?_,?_,?_,?_⟩,h1⟩
 all_goals simp [World.cell?,World.frozen?,h0,h1]
theorem RS {N:Nat} (hS:abO N) (B:Nat) (k m:Int) (s:ByteArray) (e:Int) (l:List VT) (lv:Value) (w:World) (hl:bR B w N lv l) (hs:VZ l) (hB:B≤w.heap.size):
 Calls Tryz.prog 21 #[.agg #[.int .i64 k,.int .u64 m,.string s,lv,.int .i64 e]] w fun r w'=>∃ v',r= .returned (.agg #[.int .i64 k,.int .u64 m,.string s,v',.int .i64 e])∧aW w' N w.heap.size w'.heap.size v' l∧Below w.heap.size w w':=by
 have HC:Hid (∀ w',Below w.heap.size w w'→Calls Tryz.prog 52 #[lv] w' fun r w''=>∃ v',r= .returned v'∧aW w'' N w'.heap.size w''.heap.size v' l∧Below w'.heap.size w' w''):=fun w' h=>hS B lv l w' (hl.below (h.mono hB)) hs (Nat.le_trans hB h.size)
 clear hl hs
 have BM:=ajd (XY w (.int .i64 k) (.int .u64 m) (.string s) lv (.int .i64 e) (.int .i64 0) (.int .u64 0) (.string ⟨#[]⟩) (.slice none 0 0) (.int .i64 0) 25)
 go_enter Tryz.func21,Tryz.ntmps21
 go_wp2_with (fail)
 have hbW:=ajd ((rA w (.cells #[.int .i64 k,.int .u64 m,.string s,lv,.int .i64 e] 25) (.cells #[.int .i64 0,.int .u64 0,.string ⟨#[]⟩,.slice none 0 0,.int .i64 0] 25)))
 have hzW:Hid (((w.alloc (.cells #[.int .i64 k,.int .u64 m,.string s,lv,.int .i64 e] 25)).alloc (.cells #[.int .i64 0,.int .u64 0,.string ⟨#[]⟩,.slice none 0 0,.int .i64 0] 25)).heap.size=w.heap.size+2):=by show _=_;rw [mg,mg]
 obtain ⟨W1,hW1⟩:∃ W1,(w.alloc (.cells #[.int .i64 k,.int .u64 m,.string s,lv,.int .i64 e] 25)).alloc (.cells #[.int .i64 0,.int .u64 0,.string ⟨#[]⟩,.slice none 0 0,.int .i64 0] 25)=W1:=⟨_,rfl⟩
 rw [hW1] at BM hbW hzW ⊢
 clear hW1
 refine (HC.out W1 hbW.out).mono ?_
 rintro r w2 ⟨v',rfl,hL,hb2⟩
 obtain ⟨b',hv'⟩:=hL.form
 subst hv'
 have HL2:=ajd hL
 have b2:Hid (Below (w.heap.size+2) W1 w2):=hb2.mono (Nat.le_of_eq hzW.out.symm)
 have s2:Hid (w.heap.size+2≤w2.heap.size):=Nat.le_trans (Nat.le_of_eq hzW.out.symm) hb2.size
 clear hL hb2
 obtain ⟨⟨a0,a1,a2,a3,a4,af⟩,⟨z0,z1,z2,z3,z4⟩,⟨f0,f1,f2,f3,f4⟩,hg⟩:=BM.out w2 b2.out
 have HG:=ajd hg
 clear hg
 go_wp2
 obtain ⟨v',hv'⟩:∃ v',Value.slice (some ⟨b',0,none⟩) l.length (l.length+3)=v':=⟨_,rfl⟩
 have hL3:=HL2.out
 rw [hv'] at hL3 ⊢
 have hh:Hid ((w2.setCell ⟨w.heap.size,3,none⟩ v').heap[w.heap.size+1]? =some (.cells #[.int .i64 0,.int .u64 0,.string ⟨#[]⟩,.slice none 0 0,.int .i64 0] 25 (0,0))):=(Below.heap_setCell _ _ _ _ (by simp)).trans HG.out
 have HW:=ajd (aeb (v0:= .int .i64 k) (v1:= .int .u64 m) (v2:= .string s) (v3:=v') (v4:= .int .i64 e) hh.out)
 refine bodyPost_ret_by (results_cell_row rfl _ _ (w.heap.size+1) _ _ _ _ rfl HW.out Tryz.underlying25 rfl (by kernel_rfl)) rfl ⟨v',rfl,?_,?_⟩
 ·have ha:Apart w.heap.size (w.heap.size+2) w2 (iK (w2.setCell ⟨w.heap.size,3,none⟩ v') (w.heap.size+1) 0 (.int .i64 k) (.int .u64 m) (.string s) v' (.int .i64 e)):=
   ((Apart.refl w.heap.size (w.heap.size+2) w2).setCell (p:=⟨w.heap.size,3,none⟩) (Nat.le_refl _) (Nat.lt_add_of_pos_right (by decide)) v').trans ((iV _ _ _ _ _ _ _ _).wide (by omega) (by omega))
  have:=hL3.apart ha (Nat.le_refl _) (.inr (Nat.le_of_eq hzW.out.symm))
  have hz:(iK (w2.setCell ⟨w.heap.size,3,none⟩ v') (w.heap.size+1) 0 (.int .i64 k) (.int .u64 m) (.string s) v' (.int .i64 e)).heap.size=w2.heap.size:=by rw [pQ];simp [World.setCell]
  rw [←hz] at this
  exact this.lo (Nat.le_trans (Nat.le_add_right _ 2) (Nat.le_of_eq hzW.out.symm))
 ·exact nD ((hbW.out.trans (b2.out.mono (by omega))).setCell (p:=⟨w.heap.size,3,none⟩) (Nat.le_refl _) v') (by omega)
def Ev:TypeInfo:=match Tryz.prog.info? 25 with|some i=>i|none=>default
theorem aaz:Tryz.prog.info? 25=some Ev:=by kernel_rfl
theorem MI:Ev.zero=some (.agg #[.int .i64 0,.int .u64 0,.string ⟨#[]⟩,.slice none 0 0,.int .i64 0]):=by kernel_rfl
theorem MJ:Ev.size=5:=by kernel_rfl
theorem Jv:Ev.bytes=64:=by kernel_rfl
theorem MK (w:World) (n:Nat) (hn:n≤100000):∃ C:Array Value,C.size=(n+3)*5∧(Instr.makeSlice 23 (.int .i64 (n+3)) (.int .i64 (n+3))).run Tryz.prog w= .ok (.slice (some ⟨w.heap.size,0,none⟩) (n+3) (n+3)) (w.alloc (.cells C 25)):=by
 have:=run_make (P:=Tryz.prog) w 23 25 Ev _ Tryz.underlying23 aaz MI .i64 .i64 (n+3) (n+3) (by omega) (Int.le_refl _) (by rw [Jv];omega) (by omega)
 rw [MJ] at this
 have e:(((n:Int)+3).toNat)=n+3:=by omega
 rw [e] at this
 exact ⟨_,size_madeCells _ _,this⟩
theorem aeM:∀ N,abO N:=by
 intro N
 induction N with
 |zero=>intro B lv l w h;exact h.elim
 |succ N ih=>
  intro B lv l w hl hs hB
  have HS:=ajd ih
  have HL:=ajd hl
  have HSM:=ajd hs
  obtain ⟨p,c,rfl⟩:=hl.slice
  have hlen:=hs.len
  clear hl hs ih
  obtain ⟨n,hn⟩:∃ n,l.length=n:=⟨_,rfl⟩
  have Hn:=ajd hn
  rw [hn] at hlen ⊢
  clear hn
  obtain ⟨C,hC,hmk⟩:=MK w n hlen
  have hw3:IntKind.i64.wrap ((n:Int)+3)=n+3:=by rw [IntKind.wrap_i64];omega
  have HR0:Hid (zF w (w.alloc (.cells C 25)) N 0 l):=zF.start (by rw [Hn.out];exact hC)
  clear hC
  go_enter Tryz.func52,Tryz.ntmps52
  go_wp2
  clear hmk
  go_loopw [5] (fun i wr=>∃ (j:Nat),i= .int .i64 j∧j≤n+3∧Hid (zF w wr N j l)) (fun i _=>n+3-(intOf i).toNat)
  case atStart=>exact ⟨0,rfl,Nat.zero_le _,HR0⟩
  case round=>
   obtain ⟨j,rfl,hj,HR⟩:=hrel
   have h3:=hlen
   by_cases hlt:j<n+3
   ·obtain ⟨v0,v1,v2,v3,v4,e0,e1,e2,e3,e4⟩:=HR.out.has.at5 (o:=j*5) (by rw [Hn.out];omega)
    have q0:=HR.out.o9 (j*5)
    have q1:=HR.out.o9 (j*5+1)
    have q2:=HR.out.o9 (j*5+2)
    have q3:=HR.out.o9 (j*5+3)
    have q4:=HR.out.o9 (j*5+4)
    have hlt3:(j:Int)<(n:Int)+3:=by omega
    by_cases hjn:j<n
    ·rcases HL.out with ⟨h0,_⟩|⟨b0,off,c',hp,jy,_,hel⟩
     ·rw [←Hn.out,h0] at hjn;exact absurd hjn (by simp)
     rw [Hn.out] at hp
     cases hp
     obtain ⟨t,ht⟩:∃ t,l[j]? =some t:=⟨_,List.getElem?_eq_getElem (by rw [Hn.out];exact hjn)⟩
     obtain ⟨hf,lv,hat,hlv⟩:=hel j t ht
     obtain ⟨g0,g1,g2,g3,g4⟩:=hat.below (HR.out.below.mono hB) jy
     have hne:b0≠w.heap.size:=by omega
     have hne':w.heap.size≠b0:=by omega
     have acT:(j:Int)<(n:Int):=by omega
     have HT:=ajd ht
     have HF:=ajd hf
     have hsm:=HSM.out.child ht
     have HC:Hid (∀ w',Below w.heap.size w w'→Calls Tryz.prog 21 #[.agg #[.int .i64 t.kind,.int .u64 t.num,.string t.text,lv,.int .i64 t.elem]] w' fun r w''=>∃ b',r= .returned (.agg #[.int .i64 t.kind,.int .u64 t.num,.string t.text,.slice (some ⟨b',0,none⟩) t.list.length (t.list.length+3),.int .i64 t.elem])∧aW w'' N w'.heap.size w''.heap.size (.slice (some ⟨b',0,none⟩) t.list.length (t.list.length+3)) t.list∧Below w'.heap.size w' w''):=fun w' hb'=>
      (RS HS.out B t.kind t.num t.text t.elem t.list lv w' (hlv.below (hb'.mono hB)) hsm (Nat.le_trans hB hb'.size)).mono fun r w'' ⟨v',h1,h2,h3⟩=>by
        obtain ⟨b',ahF⟩:=h2.form
        subst ahF
        exact ⟨b',h1,h2,h3⟩
     clear hel hat hlv ht hf hsm
     go_wp2_with (fail)
     generalize hW5:World.setCell _ _ _=W5
     have HW5:Hid (iK wr w.heap.size (j*5) (.int .i64 (-7)) (.int .u64 j) (.string ⟨#[]⟩) (.slice none 0 0) (.int .i64 0)=W5):=hW5
     clear hW5
     refine (HC.out W5 (by rw [←HW5.out];exact nD HR.out.below (Nat.le_refl _))).mono ?_
     rintro r w2 ⟨b',rfl,hL,hb2⟩
     have HL2:=ajd hL
     have HB2:=ajd hb2
     have acU:w.heap.size<W5.heap.size:=by rw [←HW5.out,pQ];exact HR.out.lt
     have HS5:Has W5 w.heap.size ((l.length+3)*5):=by rw [←HW5.out];exact HR.out.has.iK (by rw [Hn.out];omega)
     have fz:∀ o,w2.frozen? ⟨w.heap.size,o,none⟩=false:=fun o=>(hb2.frozen (p:=⟨_,o,none⟩) acU).trans (by rw [←HW5.out,jY];exact HR.out.o9 o)
     obtain ⟨u0,u1,u2,u3,u4,x0,x1,x2,x3,x4⟩:=(HS5.below hb2 acU).at5 (o:=j*5) (by rw [Hn.out];omega)
     have y0:=fz (j*5)
     have y1:=fz (j*5+1)
     have y2:=fz (j*5+2)
     have y3:=fz (j*5+3)
     have y4:=fz (j*5+4)
     clear hL hb2 HS5 fz e0 e1 e2 e3 e4 q0 q1 q2 q3 q4 g0 g1 g2 g3 g4 acU
     go_wp2
     go_roundw
     case rel=>exact ⟨j+1,by go_num,by omega,HR.out.part HT.out HF.out _ _ _ _ _ (by rw [HW5.out];exact HB2.out) (by rw [HW5.out];exact HL2.out)⟩
     case measure=>simp [intOf];omega
    ·have acT:¬((j:Int)<(n:Int)):=by omega
     go_wp2
     go_roundw
     case rel=>exact ⟨j+1,by go_num,by omega,HR.out.mark (by rw [Hn.out];omega) (by rw [Hn.out];omega)⟩
     case measure=>simp [intOf];omega
   ·obtain rfl:j=n+3:=by omega
    go_wp2
    go_ret
    have:=HR.out
    rw [←Hn.out] at this
    refine ⟨_,rfl,?_,this.below⟩
    rw [←Hn.out]
    exact this.done (by rw [Hn.out];exact hlen)
end Go.Proofs.YtmldhjoolebjoaaGreatDoor.Va
namespace Go.Proofs.YtmldhjoolebjoaaGreatDoor.Va
open Go Go.RowKit Nu
attribute [local go_sem ↓] Go.wp_at_zero Go.wp_at_succ
abbrev aaA (lo hi:Nat):Nat→Prop:=fun b=>b<lo∨hi≤b
def abQ (N:Nat):Prop:=∀ (M lo hi:Nat) (v lv:Value) (l:List VT) (w:World),aW w N lo hi v l→bu (aaA lo hi) w M lv l→hi≤w.heap.size→
    Calls Tryz.prog 62 #[v,lv] w fun r w'=>r= .returned (.bool true)∧Apart lo hi w w'
theorem ML {N:Nat} (hS:abQ N) (M lo hi:Nat) (k m:Int) (s:ByteArray) (e:Int) (l:List VT) (v lv:Value) (w:World) (hl:aW w N lo hi v l) (ho:bu (aaA lo hi) w M lv l) (hhi:hi≤w.heap.size):
 Calls Tryz.prog 28 #[.agg #[.int .i64 k,.int .u64 m,.string s,v,.int .i64 e],.agg #[.int .i64 k,.int .u64 m,.string s,lv,.int .i64 e]] w fun r w'=>r= .returned (.bool true)∧Apart lo hi w w':=by
 have hle:=hl.le
 have HC:Hid (∀ w',Below w.heap.size w w'→Calls Tryz.prog 62 #[v,lv] w' fun r w''=>r= .returned (.bool true)∧Apart lo hi w' w''):=fun w' h=>hS M lo hi v lv l w' (hl.below hhi h) (ho.below h) (Nat.le_trans hhi h.size)
 obtain ⟨b',hv'⟩:=hl.form
 obtain ⟨p',c',ahG⟩:=ho.slice
 subst hv' ahG
 clear hl ho
 go_enter Tryz.func28,Tryz.ntmps28
 go_wp2_with (fail)
 refine (HC.out _ (rA w _ _)).mono ?_
 rintro r w2 ⟨rfl,ha⟩
 have HA:=ajd ((Apart.of_below (lo:=lo) (hi:=hi) (rA w _ _) (Nat.le_refl _)).trans ha)
 clear ha
 go_wp2
 go_ret
 exact ⟨rfl,HA.out⟩
theorem acV:∀ N,abQ N:=by
 intro N
 induction N with
 |zero=>intro M lo hi v lv l w h;exact h.elim
 |succ N ih=>
  intro M lo hi v lv l w hl ho hhi
  obtain ⟨M',rfl⟩:∃ k,M=k+1:=by
   cases M with
   |zero=>exact ho.elim
   |succ k=>exact ⟨k,rfl⟩
  have HS:=ajd ih
  have HL:=ajd ho
  obtain ⟨p,c,rfl⟩:=ho.slice
  obtain ⟨b,rfl,hlo,hbh,hlen,hA⟩:=rZ hl
  have HA0:=ajd hA
  clear hl ho ih hA
  obtain ⟨n,hn⟩:∃ n,l.length=n:=⟨_,rfl⟩
  have Hn:=ajd hn
  rw [hn] at hlen ⊢
  clear hn
  have hw3:IntKind.i64.wrap ((n:Int)+3)=n+3:=by rw [IntKind.wrap_i64];omega
  go_enter Tryz.func62,Tryz.ntmps62
  go_wp2
  go_loopw [7,8,9] (fun g i x wr=>∃ (j:Nat),g= .bool true∧i= .int .i64 j∧j≤n+3∧Hid (Ki w wr N b lo hi j l)) (fun _ i _ _=>n+3-(intOf i).toNat)
  case atStart=>exact ⟨0,rfl,rfl,Nat.zero_le _,HA0⟩
  case round=>
   obtain ⟨j,rfl,rfl,hj,HR⟩:=hrel
   by_cases hlt:j<n+3
   ·have hlt3:(j:Int)<(n:Int)+3:=by omega
    have q0:=HR.out.o9 (j*5)
    have q1:=HR.out.o9 (j*5+1)
    have q2:=HR.out.o9 (j*5+2)
    have q3:=HR.out.o9 (j*5+3)
    have q4:=HR.out.o9 (j*5+4)
    by_cases hjn:j<n
    ·obtain ⟨t,ht⟩:∃ t,l[j]? =some t:=⟨_,List.getElem?_eq_getElem (by rw [Hn.out];exact hjn)⟩
     obtain ⟨x,y,gM,hbx,hy,hf,ha,XZ,hstep⟩:=HR.out.head ht hlo hhi
     rcases HL.out with ⟨h0,_⟩|⟨b0,off,c',hp,hP,jy,_,hel⟩
     ·rw [←Hn.out,h0] at hjn;exact absurd hjn (by simp)
     rw [Hn.out] at hp
     cases hp
     obtain ⟨_,lv0,aeO,aeP⟩:=hel j t ht
     obtain ⟨g0,g1,g2,g3,g4⟩:=aeO.heap (HR.out.apart.block b0 jy hP)
     have aeQ:=aeP.heap HR.out.apart.size fun b hb hlt=>HR.out.apart.block b hlt hb
     have hP':b0<lo∨hi≤b0:=hP
     obtain ⟨e0,e1,e2,e3,e4⟩:=ha
     have hle:=XZ.le
     have hsz:=HR.out.apart.size
     have acT:(j:Int)<(n:Int):=by omega
     have hne:b0≠b:=by rcases hP' with h|h<;>omega
     have hne':b≠b0:=fun e=>hne e.symm
     have HC:Hid (∀ w',Below wr.heap.size wr w'→Calls Tryz.prog 28 #[.agg #[.int .i64 t.kind,.int .u64 t.num,.string t.text,gM,.int .i64 t.elem],.agg #[.int .i64 t.kind,.int .u64 t.num,.string t.text,lv0,.int .i64 t.elem]] w' fun r w''=>r= .returned (.bool true)∧Apart x y w' w''):=fun w' hb'=>
      ML HS.out M' x y t.kind t.num t.text t.elem t.list gM lv0 w' (XZ.below (by omega) hb') ((aeQ.weak (Q:=aaA x y) fun b hb _=>by show b<x∨y≤b;rcases hb with h|h<;>omega).below hb') (by have:=hb'.size;omega)
     have HST:=ajd hstep
     clear hel aeO aeP aeQ ht hstep XZ hle
     have gu:Hid (∀ w',Apart x y wr w'→(Apart x y wr w'∧w'.cell? ⟨b,j*5,none⟩=some (.int .i64 t.kind)∧w'.cell? ⟨b,j*5+1,none⟩=some (.int .u64 t.num)∧w'.cell? ⟨b,j*5+2,none⟩=some (.string t.text)∧w'.cell? ⟨b,j*5+3,none⟩=some gM∧w'.cell? ⟨b,j*5+4,none⟩=some (.int .i64 t.elem)∧
      w'.cell? ⟨b0,off+j*5,none⟩=some (.int .i64 t.kind)∧w'.cell? ⟨b0,off+j*5+1,none⟩=some (.int .u64 t.num)∧w'.cell? ⟨b0,off+j*5+2,none⟩=some (.string t.text)∧w'.cell? ⟨b0,off+j*5+3,none⟩=some lv0∧w'.cell? ⟨b0,off+j*5+4,none⟩=some (.int .i64 t.elem))):=fun w' h=>
      have k:∀ o,w'.cell? ⟨b,o,none⟩=wr.cell? ⟨b,o,none⟩:=fun o=>h.cell (p:=⟨b,o,none⟩) (by show b<wr.heap.size;omega) (.inl hbx)
      have k0:∀ o,w'.cell? ⟨b0,o,none⟩=wr.cell? ⟨b0,o,none⟩:=fun o=>h.cell (p:=⟨b0,o,none⟩) (by show b0<wr.heap.size;omega) (by show b0<x∨y≤b0;rcases hP' with h|h<;>omega)
      ⟨h,(k _).trans e0,(k _).trans e1,(k _).trans e2,(k _).trans e3,(k _).trans e4,(k0 _).trans g0,(k0 _).trans g1,(k0 _).trans g2,(k0 _).trans g3,(k0 _).trans g4⟩
     obtain ⟨kk,hkk⟩:∃ kk,t.kind=kk:=⟨_,rfl⟩
     rw [hkk] at e0 g0 HC gu
     clear hkk
     by_cases hk:kk= -7
     ·subst hk
      go_wp2
      go_region_held3 (fun w'=>Apart x y wr w'∧w'.cell? ⟨b,j*5,none⟩=some (.int .i64 (-7))∧w'.cell? ⟨b,j*5+1,none⟩=some (.int .u64 t.num)∧w'.cell? ⟨b,j*5+2,none⟩=some (.string t.text)∧w'.cell? ⟨b,j*5+3,none⟩=some gM∧w'.cell? ⟨b,j*5+4,none⟩=some (.int .i64 t.elem)∧
       w'.cell? ⟨b0,off+j*5,none⟩=some (.int .i64 (-7))∧w'.cell? ⟨b0,off+j*5+1,none⟩=some (.int .u64 t.num)∧w'.cell? ⟨b0,off+j*5+2,none⟩=some (.string t.text)∧w'.cell? ⟨b0,off+j*5+3,none⟩=some lv0∧w'.cell? ⟨b0,off+j*5+4,none⟩=some (.int .i64 t.elem))
       (first
         |with_reducible exact gu.out _ ((Apart.refl _ _ _).drew.trans hb2.out)
         |with_reducible exact gu.out _ (Apart.refl _ _ _).drew)
       ((go_at_call 28;refine (HC.out _ (Below.refl _ _).drew).mono ?_;rintro r w2 ⟨rfl,hb2'⟩;have hb2:=ajd hb2';clear hb2'))
      have hb3:=ajd ((Apart.refl x y wr).drew.trans hb2.out)
      have fz:∀ o,w2.frozen? ⟨b,o,none⟩=false:=fun o=>(hb3.out.frozen (p:=⟨b,o,none⟩) (by show b<wr.heap.size;omega) (.inl hbx)).trans (HR.out.o9 o)
      have y0:=fz (j*5)
      have y1:=fz (j*5+1)
      have y2:=fz (j*5+2)
      have y3:=fz (j*5+3)
      have y4:=fz (j*5+4)
      obtain ⟨_,x0,x1,x2,x3,x4,_⟩:=gu.out w2 hb3.out
      clear fz gu HC e0 e1 e2 e3 e4 g0 g1 g2 g3 g4 q0 q1 q2 q3 q4
      go_wp2
      go_roundw
      case rel=>exact ⟨j+1,rfl,by go_num,by omega,HST.out w2 hb3.out _ _ _ _ _⟩
      case measure=>simp [intOf];omega
     ·go_wp2
      go_region_held3 (fun w'=>Apart x y wr w'∧w'.cell? ⟨b,j*5,none⟩=some (.int .i64 kk)∧w'.cell? ⟨b,j*5+1,none⟩=some (.int .u64 t.num)∧w'.cell? ⟨b,j*5+2,none⟩=some (.string t.text)∧w'.cell? ⟨b,j*5+3,none⟩=some gM∧w'.cell? ⟨b,j*5+4,none⟩=some (.int .i64 t.elem)∧
       w'.cell? ⟨b0,off+j*5,none⟩=some (.int .i64 kk)∧w'.cell? ⟨b0,off+j*5+1,none⟩=some (.int .u64 t.num)∧w'.cell? ⟨b0,off+j*5+2,none⟩=some (.string t.text)∧w'.cell? ⟨b0,off+j*5+3,none⟩=some lv0∧w'.cell? ⟨b0,off+j*5+4,none⟩=some (.int .i64 t.elem))
       (first
         |with_reducible exact gu.out _ ((Apart.refl _ _ _).drew.trans hb2.out)
         |with_reducible exact gu.out _ (Apart.refl _ _ _).drew)
       ((go_at_call 28;refine (HC.out _ (Below.refl _ _).drew).mono ?_;rintro r w2 ⟨rfl,hb2'⟩;have hb2:=ajd hb2';clear hb2'))
      have hb3:=ajd ((Apart.refl x y wr).drew.trans hb2.out)
      have fz:∀ o,w2.frozen? ⟨b,o,none⟩=false:=fun o=>(hb3.out.frozen (p:=⟨b,o,none⟩) (by show b<wr.heap.size;omega) (.inl hbx)).trans (HR.out.o9 o)
      have y0:=fz (j*5)
      have y1:=fz (j*5+1)
      have y2:=fz (j*5+2)
      have y3:=fz (j*5+3)
      have y4:=fz (j*5+4)
      obtain ⟨_,x0,x1,x2,x3,x4,_⟩:=gu.out w2 hb3.out
      clear fz gu HC e0 e1 e2 e3 e4 g0 g1 g2 g3 g4 q0 q1 q2 q3 q4
      go_wp2
      go_roundw
      case rel=>exact ⟨j+1,rfl,by go_num,by omega,HST.out w2 hb3.out _ _ _ _ _⟩
      case measure=>simp [intOf];omega
    ·have acT:¬((j:Int)<(n:Int)):=by omega
     have hmk:=HR.out.marks j (by rw [Hn.out];omega) (by rw [Hn.out];exact hlt) (Nat.le_refl _)
     have e0:wr.cell? ⟨b,j*5,none⟩=some (.int .i64 (-7)):=hmk.kind
     have e1:wr.cell? ⟨b,j*5+1,none⟩=some (.int .u64 j):=hmk.num
     have e2:wr.cell? ⟨b,j*5+2,none⟩=some (.string ⟨#[]⟩):=hmk.text
     have e3:wr.cell? ⟨b,j*5+3,none⟩=some (.slice none 0 0):=hmk.list
     have e4:wr.cell? ⟨b,j*5+4,none⟩=some (.int .i64 0):=hmk.elem
     clear hmk
     go_wp2
     go_roundw
     case rel=>exact ⟨j+1,rfl,by go_num,by omega,HR.out.mark (by rw [Hn.out];omega) (by rw [Hn.out];exact hlt) hlo hbh hhi _ _ _ _ _⟩
     case measure=>simp [intOf];omega
   ·obtain rfl:j=n+3:=by omega
    go_wp2
    go_ret
    exact ⟨rfl,HR.out.apart⟩
end Go.Proofs.YtmldhjoolebjoaaGreatDoor.Va
namespace Go.Proofs
open Go.Shelf
def Tryz.Ch:Go.Shelf.Ren:=⟨fun|197=>90|260=>111|n=>n,fun|9=>9|21=>21|3=>3|4=>4|5=>5|105=>113|119=>141|0=>0|46=>142|139=>145|138=>144|n=>n,fun|3=>0|4=>1|n=>n⟩
theorem Tryz.VV:Go.Proofs.Lays.n197 Tryz.prog Tryz.Ch:={
 mixed:=by kernel_rfl
 f197:=Tryz.func90.trans (congrArg some (by kernel_rfl))
 f260:=Tryz.func111.trans (congrArg some (by kernel_rfl))
 t0:=Tryz.underlying0
 a0:=Tryz.isAgg0
 z0:=Tryz.sizeOf0
 v0:=Tryz.zeroValue0
 t3:=Tryz.underlying3
 a3:=Tryz.isAgg3
 z3:=Tryz.sizeOf3
 v3:=Tryz.zeroValue3
 t4:=Tryz.underlying4
 a4:=Tryz.isAgg4
 z4:=Tryz.sizeOf4
 v4:=Tryz.zeroValue4
 t5:=Tryz.underlying5
 a5:=Tryz.isAgg5
 z5:=Tryz.sizeOf5
 v5:=Tryz.zeroValue5
 t9:=Tryz.underlying9
 a9:=Tryz.isAgg9
 z9:=Tryz.sizeOf9
 v9:=Tryz.zeroValue9
 t21:=Tryz.underlying21
 a21:=Tryz.isAgg21
 z21:=Tryz.sizeOf21
 v21:=Tryz.zeroValue21
 t46:=Tryz.underlying142
 a46:=Tryz.isAgg142
 z46:=Tryz.sizeOf142
 v46:=Tryz.zeroValue142
 t105:=Tryz.underlying113
 a105:=Tryz.isAgg113
 z105:=Tryz.sizeOf113
 v105:=Tryz.zeroValue113
 t119:=Tryz.underlying141
 a119:=Tryz.isAgg141
 z119:=Tryz.sizeOf141
 t138:=Tryz.underlying144
 a138:=Tryz.isAgg144
 z138:=Tryz.sizeOf144
 v138:=Tryz.zeroValue144
 t139:=Tryz.underlying145
 a139:=Tryz.isAgg145
 z139:=Tryz.sizeOf145
 v139:=Tryz.zeroValue145
 g3:=by kernel_rfl
 g4:=by kernel_rfl}
def Tryz.PY:Go.Shelf.Ren:=⟨fun|106=>187|213=>207|265=>214|n=>n,fun|9=>9|3=>3|n=>n,fun|n=>n⟩
theorem Tryz.acW:Go.Proofs.Lays.n106 Tryz.prog Tryz.PY:={
 mixed:=by kernel_rfl
 f106:=Tryz.func187.trans (congrArg some (by kernel_rfl))
 f213:=Tryz.func207.trans (congrArg some (by kernel_rfl))
 f265:=Tryz.func214.trans (congrArg some (by kernel_rfl))
 t3:=Tryz.underlying3
 a3:=Tryz.isAgg3
 z3:=Tryz.sizeOf3
 v3:=Tryz.zeroValue3
 t9:=Tryz.underlying9
 a9:=Tryz.isAgg9
 z9:=Tryz.sizeOf9
 v9:=Tryz.zeroValue9}
def Tryz.UF:Go.Shelf.Ren:=⟨fun|6=>158|15=>183|14=>182|28=>203|29=>204|20=>195|21=>196|22=>197|23=>198|24=>199|25=>200|26=>201|27=>202|46=>209|47=>210|48=>211|49=>212|50=>213|57=>217|n=>n,fun|22=>23|24=>25|25=>150|3=>3|39=>142|0=>0|53=>181|55=>22|4=>4|46=>175|45=>174|50=>126|5=>5|9=>9|66=>189|70=>193|76=>206|77=>207|n=>n,fun|n=>n⟩
theorem Tryz.abR:Go.Proofs.SlLaysF0.n6 Tryz.prog Tryz.UF:={
 mixed:=by kernel_rfl
 f6:=⟨Tryz.f158.name,by decide,Tryz.func158.trans (congrArg some (by kernel_rfl))⟩
 f14:=⟨Tryz.f182.name,by decide,Tryz.func182.trans (congrArg some (by kernel_rfl))⟩
 f15:=Tryz.func183.trans (congrArg some (by kernel_rfl))
 f20:=⟨Tryz.f195.name,by decide,Tryz.func195.trans (congrArg some (by kernel_rfl))⟩
 f21:=⟨Tryz.f196.name,by decide,Tryz.func196.trans (congrArg some (by kernel_rfl))⟩
 f22:=⟨Tryz.f197.name,by decide,Tryz.func197.trans (congrArg some (by kernel_rfl))⟩
 f23:=⟨Tryz.f198.name,by decide,Tryz.func198.trans (congrArg some (by kernel_rfl))⟩
 f24:=⟨Tryz.f199.name,by decide,Tryz.func199.trans (congrArg some (by kernel_rfl))⟩
 f25:=⟨Tryz.f200.name,by decide,Tryz.func200.trans (congrArg some (by kernel_rfl))⟩
 f26:=⟨Tryz.f201.name,by decide,Tryz.func201.trans (congrArg some (by kernel_rfl))⟩
 f27:=⟨Tryz.f202.name,by decide,Tryz.func202.trans (congrArg some (by kernel_rfl))⟩
 f28:=Tryz.func203.trans (congrArg some (by kernel_rfl))
 f29:=Tryz.func204.trans (congrArg some (by kernel_rfl))
 f46:=⟨Tryz.f209.name,by decide,Tryz.func209.trans (congrArg some (by kernel_rfl))⟩
 f47:=Tryz.func210.trans (congrArg some (by kernel_rfl))
 f48:=Tryz.func211.trans (congrArg some (by kernel_rfl))
 f49:=⟨Tryz.f212.name,by decide,Tryz.func212.trans (congrArg some (by kernel_rfl))⟩
 f50:=⟨Tryz.f213.name,by decide,Tryz.func213.trans (congrArg some (by kernel_rfl))⟩
 f57:=⟨Tryz.f217.name,by decide,Tryz.func217.trans (congrArg some (by kernel_rfl))⟩
 t0:=Tryz.underlying0
 a0:=Tryz.isAgg0
 z0:=Tryz.sizeOf0
 v0:=Tryz.zeroValue0
 t3:=Tryz.underlying3
 a3:=Tryz.isAgg3
 z3:=Tryz.sizeOf3
 v3:=Tryz.zeroValue3
 t4:=Tryz.underlying4
 a4:=Tryz.isAgg4
 z4:=Tryz.sizeOf4
 v4:=Tryz.zeroValue4
 t5:=Tryz.underlying5
 a5:=Tryz.isAgg5
 z5:=Tryz.sizeOf5
 v5:=Tryz.zeroValue5
 t9:=Tryz.underlying9
 a9:=Tryz.isAgg9
 z9:=Tryz.sizeOf9
 v9:=Tryz.zeroValue9
 t22:=Tryz.underlying23
 a22:=Tryz.isAgg23
 z22:=Tryz.sizeOf23
 v22:=Tryz.zeroValue23
 t25:=Tryz.underlying150
 a25:=Tryz.isAgg150
 z25:=Tryz.sizeOf150
 v25:=Tryz.zeroValue150
 t39:=Tryz.underlying142
 a39:=Tryz.isAgg142
 z39:=Tryz.sizeOf142
 v39:=Tryz.zeroValue142
 t45:=Tryz.underlying174
 a45:=Tryz.isAgg174
 z45:=Tryz.sizeOf174
 v45:=Tryz.zeroValue174
 t46:=Tryz.underlying175
 a46:=Tryz.isAgg175
 z46:=Tryz.sizeOf175
 v46:=Tryz.zeroValue175
 t50:=Tryz.underlying126
 a50:=Tryz.isAgg126
 z50:=Tryz.sizeOf126
 v50:=Tryz.zeroValue126
 t53:=Tryz.underlying181
 a53:=Tryz.isAgg181
 z53:=Tryz.sizeOf181
 v53:=Tryz.zeroValue181
 t55:=Tryz.underlying22
 a55:=Tryz.isAgg22
 z55:=Tryz.sizeOf22
 v55:=Tryz.zeroValue22
 t66:=Tryz.underlying189
 a66:=Tryz.isAgg189
 z66:=Tryz.sizeOf189
 v66:=Tryz.zeroValue189
 t70:=Tryz.underlying193
 a70:=Tryz.isAgg193
 z70:=Tryz.sizeOf193
 v70:=Tryz.zeroValue193
 t76:=Tryz.underlying206
 a76:=Tryz.isAgg206
 z76:=Tryz.sizeOf206
 v76:=Tryz.zeroValue206
 t77:=Tryz.underlying207
 a77:=Tryz.isAgg207
 z77:=Tryz.sizeOf207
 v77:=Tryz.zeroValue207}
end Go.Proofs
namespace Go.Proofs.YtmldhjoolebjoaaGreatDoor.Va
open Go Go.RowKit Go.Shelf Nu
attribute [local go_sem] Oper.semAt_some
theorem Jw {F:Fence} (hd:F.depth=none) (k:Nat):F.room k:=fun d h=>by rw [hd] at h;cases h
theorem MM {F:Fence} (hd:F.depth=none) {m m':Nat} {P:Program} {l:Nat} {f:FuncId} {tmps:Array Value} {assign body:Code} {w:World} {R:Ending→World→Prop}
 (h:RoundIn F m P l f tmps assign body w R):RoundIn F m' P l f tmps assign body w R:=⟨h.1,fun c cs _=>h.2 c cs (Jw hd _)⟩
theorem MN {F:Fence} (hd:F.depth=none) {m:Nat} (m':Nat) {P:Program} {l:Nat} {args:Array Value} {W:World} {R:Ending→World→Prop} (h:YieldAt F m P l args W R):YieldAt F m' P l args W R:=by
 obtain ⟨fn,tmps,assign,body,hy,hR⟩:=h
 exact ⟨fn,tmps,assign,body,hy,MM hd hR⟩
theorem ag {w:World} {b o:Nat} {t:VT} {lv:Value} (h:Cells w b o (t.cells lv)):(Instr.loadAt 25 (.pointer (some ⟨b,o,none⟩))).run Tryz.prog w= .ok (t.agg lv) w:=
 Go.run_loadAt_mid w b o 25 (t.cells lv) _ h Tryz.underlying25 rfl (by kernel_rfl)
theorem aD {w:World} {b o:Nat} {t:VT} {a:Option Addr} {n c:Nat} (h:w.there b o 5):(Instr.storeAt 25 (.pointer (some ⟨b,o,none⟩)) (t.agg (.slice a n c))).run Tryz.prog w= .ok () (w.setCells b o (t.cells (.slice a n c))):=
 Go.run_storeAt_mid w b o 25 (t.cells (.slice a n c)).toArray h (by kernel_rfl) (by simp [VT.cells,Value.oneCell'])
theorem aF {w:World} {a:Addr} {v:Value} (h:w.cell? a=some v):(Instr.loadAt 23 (.pointer (some a))).run Tryz.prog w= .ok v w:=by
 have:=Tryz.underlying23
 have:=Tryz.sizeOf23
 go_simp
theorem ow {w:World} {b:Nat} {cs:List Value} (h:Cells w b 0 cs) (j:Nat) (u:Value) (hu:cs[j]? =some u):w.cell? ⟨b,j,none⟩=some u:=by
 have:=h j u hu
 rwa [Nat.zero_add] at this
theorem Ew {w:World} {cs:List Value} {T:TypeId}:Cells (w.alloc (.cells cs.toArray T)) w.heap.size 0 cs:=Cells.of_heap (heap_alloc_new _ _)
theorem PZ {w:World} {b:Nat} {cs:List Value} (h:Cells w b 0 cs):Has w b cs.length:=fun j hj=>⟨cs[j],by have:=h j _ (List.getElem?_eq_getElem hj);rwa [Nat.zero_add] at this⟩
theorem Ey (v:World) (t:VT) (a:Option Addr) (n c:Nat):∃ V1 V2,v.alloc (.cells #[.int .i64 0,.int .u64 0,.string ⟨#[]⟩,.slice none 0 0,.int .i64 0] 25)=V1∧(Instr.storeAt 25 (.pointer (some ⟨v.heap.size,0,none⟩)) (t.agg (.slice a n c))).run Tryz.prog V1= .ok () V2∧
 Cells V2 v.heap.size 0 (t.cells (.slice a n c))∧Below v.heap.size v V2∧v.grownBy V2 none:=by
 have hz:Cells (v.alloc (.cells #[.int .i64 0,.int .u64 0,.string ⟨#[]⟩,.slice none 0 0,.int .i64 0] 25)) v.heap.size 0 [.int .i64 0,.int .u64 0,.string ⟨#[]⟩,.slice none 0 0,.int .i64 0]:=Ew
 have hh:=PZ hz
 have hf:∀ j,(v.alloc (.cells #[.int .i64 0,.int .u64 0,.string ⟨#[]⟩,.slice none 0 0,.int .i64 0] 25)).frozen? ⟨v.heap.size,j,none⟩=false:=fun j=>World.frozen?_alloc_new _ _ _ _
 have hb:Below v.heap.size v ((v.alloc (.cells #[.int .i64 0,.int .u64 0,.string ⟨#[]⟩,.slice none 0 0,.int .i64 0] 25)).setCells v.heap.size 0 (t.cells (.slice a n c))):=sw (Nat.le_refl _) _ _ _ ((Below.refl _ _).alloc (Nat.le_refl _) _)
 refine ⟨_,_,rfl,aD (hh.there hf (o:=0) (n:=5) (Nat.le_refl _)),hh.aec (Nat.le_refl _),hb,⟨hb.os,hb.tape,hb.output,hb.size,fun k hk _=>hb.block k hk⟩⟩
theorem dW {w:World} {b o:Nat} {t:VT} {lv:Value} (h:pO w b o t lv):Cells w b o (t.cells lv):=fun j u hu=>by
 have hj:j<5:=(List.getElem?_eq_some_iff.1 hu).1
 match j,hj with
 |0,_=>cases hu;exact h.kind
 |1,_=>cases hu;exact h.num
 |2,_=>cases hu;exact h.text
 |3,_=>cases hu;exact h.list
 |4,_=>cases hu;exact h.elem
theorem acX {br:Nat} {w w':World} {b o:Nat} {t:VT} {lv:Value} (hk:Kc br w w') (h:pO w b o t lv) (hb:b≠br):pO w' b o t lv:=⟨hk.cell h.kind hb,hk.cell h.num hb,hk.cell h.text hb,hk.cell h.list hb,hk.cell h.elem hb⟩
attribute [-go_sem] Go.Instr.loadAt Go.Instr.storeAt
theorem acY (F:Fence) (hd:F.depth=none) (hfn:F.fn 113) (hro:F.round=none) (l br B N0 M:Nat) (w0:World) (hBr:B≤br) (_hBw:B≤w0.heap.size) (J Jx:List (It B w0 N0)→World→Prop) (hJa:∀ s W W',J s W→W.grownBy W' none→J s W')
 (hY:∀ m pre (x:It B w0 N0) W,J pre W→pre.length<M→YieldAt F m Tryz.prog l #[.int .i64 x.d,x.t.agg x.lv] W fun e W'=>
   (e= .returned (.bool true)∧J (pre++[x]) W'∧Kc br W W')∨(e= .returned (.bool false)∧Jx (pre++[x]) W')):
 ∀ (lev:Nat),lev≤N0→∀ (n:Nat) (t:VT) (lv:Value) (d:Nat) (pre:List (It B w0 N0)) (W:World),t.bD→bR B w0 lev lv t.list→Kc br w0 W→br<W.heap.size→J pre W→pre.length+nodes t≤M→d+nodes t≤1000000000→
   CallsIn F n Tryz.prog 113 #[t.agg lv,.int .i64 d,.func (.yield l) #[] #[]] W fun e W'=>
    (e= .returned (.bool true)∧Kc br W W'∧∃ ys,ys.length=nodes t∧(Rb t d ys∧Rc t d ys)∧J (pre++ys) W')∨(e= .returned (.bool false)∧∃ q,KM t d q∧Jx (pre++q) W'):=by
 intro lev
 have hdd:∀ k:Nat,(F.depth.isSome=true→1≤k):=fun k h=>by rw [hd] at h;cases h
 induction lev with
 |zero=>intro _ n t lv d pre W _ h;exact h.elim
 |succ lev ih=>
  intro ahI n t lv d pre W hf hl hk hbr hJ hM hd9
  have HL:=ajd hl
  have HK:=ajd hk
  obtain ⟨p,c,rfl⟩:=hl.slice
  have hlen:=hl.len
  obtain ⟨x,hx⟩:∃ x:It B w0 N0,x.d=d∧x.t=t∧x.lv= .slice p t.list.length c:=⟨⟨d,t,_,hf,hl.mono ahI⟩,rfl,rfl,rfl⟩
  have hnd:=aX t
  obtain ⟨W1,hW1⟩:∃ W1,W.alloc (.cells #[.int .i64 t.kind,.int .u64 t.num,.string t.text,.slice p t.list.length c,.int .i64 t.elem] 25)=W1:=⟨_,rfl⟩
  have hJ1:J pre W1:=by rw [←hW1];exact hJa pre W _ hJ (World.grownBy_alloc W _ none)
  have hb1:Below W.heap.size W W1:=by rw [←hW1];exact (Below.refl _ _).alloc (Nat.le_refl _) _
  obtain ⟨fn,tmps,assign,body,hy,hR⟩:=hY (n-1) pre x W1 hJ1 (by omega)
  rw [hx.1,hx.2.1,hx.2.2] at hy
  refine callsIn_of_wp Tryz.func113 rfl hfn ?_ hro
  simp only [Tryz.ntmps113,List.size_toArray,List.length_cons,List.length_nil,Nat.reduceAdd,Nat.reduceSub,Array.replicate_succ,Array.replicate_zero,List.push_toArray,List.append_toArray,List.nil_append,List.cons_append]
  have k1:Cells W1 W.heap.size 0 (t.cells (.slice p t.list.length c)):=by rw [←hW1];exact Ew (cs:=t.cells (.slice p t.list.length c))
  have l1:=ag k1
  gi_wp2
  refine hR.mono ?_
  rintro e W2 (⟨rfl,hJ2,hk2⟩|⟨rfl,hx2⟩)
  ·have hne:W.heap.size≠br:=by omega
   have l2:=aF (hk2.cell (ow k1 3 _ rfl) hne)
   have Ya:=ajd (((HK.out.trans (Kc.of_below hb1)).trans hk2))
   have ahJ:=ajd ((Kc.of_below (br:=br) hb1).trans hk2)
   have hz2:W.heap.size<W2.heap.size:=by have:=hk2.size;have h3:W1.heap.size=W.heap.size+1:=by {rw [←hW1];exact aO _ _};omega
   have HA0:Hid (Oi t d 0 [x]∧SX t d 0 [x]):=⟨Ol (B:=B) (w0:=w0) (N:=N0) hx.2.1 hx.1,Oo hx.1⟩
   have hlen':t.list.length≤9223372036854775807:=hlen
   obtain ⟨m,hm⟩:∃ m,t.list.length=m:=⟨_,rfl⟩
   have Hm:=ajd hm
   rw [hm] at hlen' l2 HL
   have ahK:=ajd hJ2
   clear l1 hy hR hk2 hb1 hJ1 hJ2 hW1 k1 hlen hm
   gi_wp2
   gi_loopw [17] (fun i wr=>∃ (j:Nat) (ys:List (It B w0 N0)),i= .int .i64 j∧j≤m∧Hid (Oi t d j ys∧SX t d j ys)∧Hid (1≤ys.length∧ys.length+aj (t.list.drop j)=nodes t)∧Hid (J (pre++ys) wr)∧Hid (Kc br W2 wr)) (fun i _=>m-(intOf i).toNat)
   case atStart=>exact ⟨0,[x],rfl,Nat.zero_le _,HA0,⟨Nat.le_refl 1,by show 1+aj (t.list.drop 0)=_;rw [List.drop_zero,hnd];omega⟩,ahK,Kc.refl _ _⟩
   case round=>
    obtain ⟨j,ys,rfl,hj,hA,hN,hJr,hkr⟩:=hrel
    by_cases hlt:j<m
    ·rcases HL.out with ⟨h0,_⟩|⟨b,off,c',hp,jy,_,hel⟩
     ·exfalso;have:=Hm.out;rw [h0] at this;simp at this;omega
     rw [Hm.out] at hp
     cases hp
     obtain ⟨u,hu⟩:∃ u,t.list[j]? =some u:=⟨_,List.getElem?_eq_getElem (by rw [Hm.out];exact hlt)⟩
     obtain ⟨uf,ulv,hat,Yb⟩:=hel j u hu
     obtain ⟨pu,cu,rfl⟩:=Yb.slice
     have hkw:=Ya.out.trans hkr.out
     have l3:=ag (dW (acX hkw hat (by omega)))
     obtain ⟨V1,V2,hV1,st1,kv,kb,kg⟩:=Ey wr u pu u.list.length cu
     have l4:=ag kv
     have hJ4:J (pre++ys) V2:=hJa _ wr V2 hJr.out kg
     have hns:=KL hu
     have hN':=hN.out
     have hi:=ih (by omega) (n-1) u (.slice pu u.list.length cu) (d+1) (pre++ys) V2 uf Yb (hkw.trans (Kc.of_below kb)) (by have:=hkr.out.size;have:=kb.size;omega) hJ4 (by rw [List.length_append];omega) (by omega)
     have hwd:IntKind.i64.wrap ((d:Int)+1)=d+1:=by rw [IntKind.wrap_i64];omega
     have hi0:(0:Int)≤(j:Int):=by omega
     have hi1:(j:Int)<(m:Int):=by omega
     have HI:=ajd hi
     have HS:=ajd hu
     have MO:=ajd (hkr.out.trans (Kc.of_below (br:=br) kb))
     have HNs:=ajd hns
     clear hel hat Yb uf hu hkw kv kb kg hJ4 hns hN' hi
     gi_wp2_with ((try refine ⟨hdd _,?_⟩);gi_at_call 113;refine HI.out.mono ?_;rintro e W3 (⟨rfl,hk3,ys',hl',hf',hJ3⟩|⟨rfl,q,hq,hx3⟩))
     ·go_roundw
      case rel=>exact ⟨j+1,ys++ys',by go_num,by omega,⟨SS hA.out.1 HS.out (by simpa using hf'.1),SY hA.out.2 HS.out (by simpa using hf'.2)⟩,by have:=HNs.out;have:=hN.out;refine ⟨?_,?_⟩<;>(rw [List.length_append];omega),by show J _ _;rw [←List.append_assoc];exact hJ3,MO.out.trans hk3⟩
      case measure=>simp [intOf];omega
     ·go_ret
      exact .inr ⟨rfl,ys++q,Om hA.out.1 HS.out (by simpa using hq),by rw [←List.append_assoc];exact hx3⟩
    ·obtain rfl:j=m:=by omega
     gi_wp2
     go_ret
     have hA':=hA.out
     have hN':=hN.out.2
     rw [←Hm.out] at hA' hN'
     rw [List.drop_length] at hN'
     exact .inl ⟨rfl,ahJ.out.trans hkr.out,ys,by simpa [aj] using hN',⟨SV hA'.1,S9 hA'.2⟩,hJr.out⟩
  ·gi_wp2
   go_ret
   exact .inr ⟨rfl,[x],Oj hx.2.1 hx.1,hx2⟩
end Go.Proofs.YtmldhjoolebjoaaGreatDoor.Va
namespace Go.Proofs.YtmldhjoolebjoaaGreatDoor.Va
open Go Go.RowKit Nu
theorem uL:(Tryz.prog.info? 25).map (fun i=>(i.zero,i.size,i.bytes))=some (some (.agg #[.int .i64 0,.int .u64 0,.string ⟨#[]⟩,.slice none 0 0,.int .i64 0]),5,64):=by kernel_rfl
theorem xD {xs:List (VT×Value)} {p:Option Addr} {c:Nat} (w:World) (hel:∀ (i:Nat) (x:VT×Value),xs[i]? =some x→(∃ q n d,x.2= .slice q n d)∧∃ b off,p=some ⟨b,off,none⟩∧pO w b (off+i*5) x.1 x.2) (hn:xs.length≤900000000):
 Calls Tryz.prog 97 #[.slice p xs.length c] w fun e w'=>∃ v',e= .returned v'∧w'.ownsRow w.heap.size 25 5 v' xs.length (bE xs)∧Below w.heap.size w w':=by
 have q22:∀ (w:World) (a:Option Addr) (n c n' c':Nat),(binOp .eql 23 (.slice a n c) (.slice none n' c')).run Tryz.prog w= .ok (.bool a.isNone) w:=fun w a n c n' c'=>Lib.run_eql_slice_nil w _ _ a n c n' c' Tryz.underlying23
 cases p with
 |none=>
  have hx:xs=[]:=by
   cases xs with
   |nil=>rfl
   |cons x r=>obtain ⟨_,b,off,e,_⟩:=hel 0 x rfl;cases e
  subst hx
  clear hel
  go_enter Tryz.func97,Tryz.ntmps97
  go_wp2
  go_ret
  exact ⟨_,rfl,World.ownsRow_nil _ _ _ _,Below.refl _ _⟩
 |some a=>
  have hc:∀ j u,(bE xs)[j]? =some u→w.cell? (a.add j)=some u:=fun j u hu=>by
   obtain ⟨i,k,x,rfl,hk,hx,hcc⟩:=Cs hu
   obtain ⟨_,b,off,e,ha⟩:=hel i x hx
   cases e
   rw [Addr.add_lit,←Nat.add_assoc]
   exact dW ha k u hcc
  have hone:∀ u∈bE xs,u.oneCell'=true:=N9 fun x hx=>by
   obtain ⟨i,hi⟩:=List.getElem?_of_mem hx
   exact (hel i x hi).1
  obtain ⟨i0,hi,hz0,hz1,hz2⟩:=info_parts uL
  obtain ⟨n,hn'⟩:∃ n,xs.length=n:=⟨_,rfl⟩
  have HC:=ajd hc
  have HO:=ajd hone
  have HL:=ajd ((vY xs).trans (by rw [hn']))
  rw [hn'] at hn ⊢
  have hn1:0+n≤maxLen:=by unfold maxLen;omega
  have hn2:(0+n)*64≤140737488355328:=by omega
  clear hel hc hone hn'
  go_enter Tryz.func97,Tryz.ntmps97
  go_wp2_with (at_builtin;refine wpList_append_own _ rfl _ _ 23 rfl w.heap.size 25 i0 _ 5 64 Tryz.underlying23 hi hz0 hz1 hz2 rfl (by omega) _ _ _ rfl (World.ownsRow_made w #[] 0 (Nat.le_refl _) (Nat.zero_le _) (by simp)) a n c (bE xs) rfl HL.out ?qc2 HO.out hn1 hn2 ?qc6 ?_)
  case qc2=>
   intro j u hj
   exact Lib.cell?_alloc_some _ (HC.out j u hj)
  case qc6=>simp
  intro v' w1 hown hgrow _
  have HOW:=ajd hown
  have HB':Hid (Below w.heap.size w w1):=((Below.refl _ _).alloc (Nat.le_refl _) _).grown hgrow (by simp) (by intro k hk;simp [Value.ownBlock] at hk;omega)
  obtain ⟨p',n',c',rfl⟩:∃ p' n' c',v'= .slice p' n' c':=by
   rcases hown.2 with ⟨rfl,_⟩|⟨g,cap,cur,rfl,_⟩
   ·exact ⟨_,_,_,rfl⟩
   ·exact ⟨_,_,_,rfl⟩
  clear hown hgrow
  go_wp2
  go_ret
  exact ⟨_,rfl,by have:=HOW.out;simpa using this,HB'.out⟩
theorem P6 {B N:Nat} {v:Value} {ts:List VT} (w:World) (h:bR B w (N+1) v ts) (hn:ts.length≤900000000):
 Calls Tryz.prog 97 #[v] w fun e w'=>∃ v' xs,e= .returned v'∧xs.map (·.1)=ts∧(∀ (i:Nat) (x:VT×Value),xs[i]? =some x→x.1.bD∧bR B w N x.2 x.1.list)∧w'.ownsRow w.heap.size 25 5 v' ts.length (bE xs)∧Below w.heap.size w w':=by
 obtain ⟨xs,p,c,hm,rfl,hel⟩:=h.open
 have hlen:ts.length=xs.length:=by rw [←hm,List.length_map]
 rw [hlen] at hn ⊢
 refine (xD (xs:=xs) (p:=p) (c:=c) w (fun i x hx=>?_) hn).mono ?_
 ·obtain ⟨_,h2,b,off,e,_,ha⟩:=hel i x hx
  obtain ⟨q,d,e2⟩:=h2.slice
  exact ⟨⟨q,_,d,e2⟩,b,off,e,ha⟩
 ·rintro e w' ⟨v',rfl,h1,h2⟩
  exact ⟨v',xs,rfl,hm,fun i x hx=>⟨(hel i x hx).1,(hel i x hx).2.1⟩,h1,h2⟩
theorem FU {w:World} {b o:Nat} {a:Option Addr} {n c:Nat} {u:Value} (hc:w.cell? ⟨b,o,none⟩=some u) (hf:w.frozen? ⟨b,o,none⟩=false):(Instr.storeAt 23 (.pointer (some ⟨b,o,none⟩)) (.slice a n c)).run Tryz.prog w= .ok () (w.setCell ⟨b,o,none⟩ (.slice a n c)):=by
 have:=Tryz.underlying23
 have:=Tryz.sizeOf23
 go_simp
theorem kK {w:World} {b o:Nat} {a:Option Addr} {n c:Nat} (h:w.there b o 1):(Instr.storeAt 23 (.pointer (some ⟨b,o,none⟩)) (.slice a n c)).run Tryz.prog w= .ok () (w.setCells b o [.slice a n c]):=by
 have h0:=h 0 (by omega)
 obtain ⟨u,hu⟩:=Option.isSome_iff_exists.1 h0.1
 exact FU hu h0.2
attribute [-go_sem] Go.Instr.loadAt Go.Instr.storeAt
theorem bB {w:World} {b:Nat} {t:VT} {lv:Value} (h:Cells w b 0 (t.cells lv)):(loadVar 25 ⟨b,0,none⟩).run Tryz.prog w= .ok (t.agg lv) w:=
 Go.run_loadVar_mid w b 0 25 (t.cells lv) _ h Tryz.underlying25 rfl (by kernel_rfl)
def ahM (N:Nat):Prop:=∀ (B:Nat) (t:VT) (lv:Value) (w:World),t.bD→bR B w N lv t.list→B≤w.heap.size→nodes t≤900000000→
    Calls Tryz.prog 105 #[t.agg lv] w fun r w'=>∃ gM us,r= .returned (t.agg gM)∧OL w' N gM t.list us∧ku w.heap.size w'.heap.size us∧aM us∧Below w.heap.size w w'
theorem fZ:∀ l:List VT,l.length≤aj l
 |[]=>Nat.zero_le _
 |t::r=>by have:=fZ r;have:=aX t;rw [aj,List.length_cons];omega
theorem copies:∀ N,ahM N:=by
 intro N
 induction N with
 |zero=>intro B t lv w _ h;exact h.elim
 |succ N ih=>
  intro B t lv w hf hl hB hn
  have HS:=ajd ih
  have o7:=ajd hn
  obtain ⟨p,c,rfl⟩:=hl.slice
  have hlen:t.list.length≤900000000:=by have:=fZ t.list;have:=aX t;omega
  obtain ⟨W1,hW1⟩:∃ W1,(w.alloc (.cells #[.int .i64 t.kind,.int .u64 t.num,.string t.text,.slice p t.list.length c,.int .i64 t.elem] 25)).alloc (.cells #[.int .i64 0,.int .u64 0,.string ⟨#[]⟩,.slice none 0 0,.int .i64 0] 25)=W1:=⟨_,rfl⟩
  obtain ⟨x1,x2,hz1,hb1⟩:=bK (cs:=t.cells (.slice p t.list.length c)) (ds:=ah.cells (.slice none 0 0)) hW1
  have l0:=aF (x1.cell (j:=3) rfl)
  have MP:=ajd (hl.below (hb1.mono hB))
  have X1:=ajd x1
  have X2:=ajd x2
  have HB1:=ajd hb1
  clear hl ih x1 x2 hb1 hn
  go_enter Tryz.func105,Tryz.ntmps105
  go_wp2_with (fail)
  clear hW1 l0
  refine (P6 (B:=B) (N:=N) W1 MP.out (by omega)).mono ?_
  rintro r w2 ⟨v',xs,rfl,hmap,hel,hown,hb2⟩
  have hxl:xs.length=t.list.length:=by rw [←hmap,List.length_map]
  have HM:=ajd hmap
  have HEL:=ajd hel
  have HX:=ajd hxl
  have z2:=hb2.size
  have xI:=ajd (X1.out.below hb2 (by omega))
  have Au:=ajd (X2.out.below hb2 (by omega))
  have HB2:=ajd (HB1.out.trans (hb2.mono (by omega)))
  have l2:=aF (xI.out.cell (j:=3) rfl)
  rcases hown.2 with ⟨rfl,hn0⟩|⟨g,cap,cur,rfl,hgl,hg,hcap,hcm,hcs,htk⟩
  ·rw [hn0] at hlen HX hxl xI X1 ⊢
   have ht0:t.list=[]:=List.eq_nil_of_length_eq_zero hn0
   have hst:=kK (a:=none) (n:=0) (c:=0) (xI.out.part (o:=3) (n:=1) (by show 3+1≤5;omega))
   obtain ⟨W3,hW3⟩:∃ W3,w2.setCells w.heap.size 3 [.slice none 0 0]=W3:=⟨_,rfl⟩
   have y1:eF W3 w.heap.size (t.cells (.slice none 0 0)):=by
    rw [←hW3]
    refine xI.out.set (o:=3) (by show 3+1≤5;omega) rfl (fun j u hu=>?_) (fun j hj=>?_)
    ·match j,hu with
     |0,hu=>exact hu
    ·match j,hj with
     |0,_=>rfl
     |1,_=>rfl
     |2,_=>rfl
     |3,h=>simp at h
     |4,_=>rfl
     |j+5,_=>rfl
   have y2:eF W3 (w.heap.size+1) (ah.cells (.slice none 0 0)):=Au.out.heap (by rw [←hW3];exact aA (by omega) _ _)
   have yb:Below w.heap.size w W3:=by rw [←hW3];exact HB2.out.trans (au (Nat.le_refl _) _ _)
   rw [hW3] at hst
   have l3:=aF (y1.cell (j:=3) rfl)
   have l5:=ag y1.1
   have kL:=aD (t:=t) (a:=none) (n:=0) (c:=0) (y2.part (o:=0) (n:=5) (Nat.le_refl _))
   have y3:=y2.all (vs:=t.cells (.slice none 0 0)) rfl
   have yb:Below w.heap.size w (W3.setCells (w.heap.size+1) 0 (t.cells (.slice none 0 0))):=yb.trans (au (by omega) _ _)
   obtain ⟨X,hX⟩:∃ X,W3.setCells (w.heap.size+1) 0 (t.cells (.slice none 0 0))=X:=⟨_,rfl⟩
   rw [hX] at kL y3 yb
   have HF:Hid (OL X (N+1) (.slice none 0 0) t.list [.slice none 0 0]∧ku w.heap.size X.heap.size [.slice none 0 0]∧aM [.slice none 0 0]∧Below w.heap.size w X):=⟨by rw [ht0];exact OL.nil _ _,ku.none _ _,aM.one _,yb⟩
   have iJ:=ajd (bB y3.1)
   clear hown hel hmap hb2 hxl y1 y2 y3 yb hX hW3 l2 ht0 hn0
   go_wp2
   clear hst
   go_loopw [11] (fun iv wr=>iv= .int .i64 0∧wr=W3) (fun _ _=>0)
   case atStart=>exact ⟨rfl,rfl⟩
   case round=>
    obtain ⟨rfl,rfl⟩:=hrel
    go_wp2
    exact bodyPost_ret_by (dR rfl rfl iJ.out) rfl ⟨_,_,rfl,HF.out⟩
  ·have hst:=kK (a:=some ⟨g,0,none⟩) (n:=t.list.length) (c:=cap) (xI.out.part (o:=3) (n:=1) (by show 3+1≤5;omega))
   obtain ⟨W3,hW3⟩:∃ W3,w2.setCells w.heap.size 3 [.slice (some ⟨g,0,none⟩) t.list.length cap]=W3:=⟨_,rfl⟩
   have y1:eF W3 w.heap.size (t.cells (.slice (some ⟨g,0,none⟩) t.list.length cap)):=by
    rw [←hW3]
    refine xI.out.set (o:=3) (by show 3+1≤5;omega) rfl (fun j u hu=>?_) (fun j hj=>?_)
    ·match j,hu with
     |0,hu=>exact hu
    ·match j,hj with
     |0,_=>rfl
     |1,_=>rfl
     |2,_=>rfl
     |3,h=>simp at h
     |4,_=>rfl
     |j+5,_=>rfl
   have y2:eF W3 (w.heap.size+1) (ah.cells (.slice none 0 0)):=Au.out.heap (by rw [←hW3];exact aA (by omega) _ _)
   have yg:W3.heap[g]? =some (.cells cur 25 (0,0)):=by rw [←hW3,aA (by omega)];exact hg
   have yb:Below w.heap.size w W3:=by rw [←hW3];exact HB2.out.trans (au (Nat.le_refl _) _ _)
   have P7:Hid (Below w.heap.size W1 W3):=by rw [←hW3];exact (hb2.mono (by omega)).trans (au (Nat.le_refl _) _ _)
   have hR0:Cu g cap xs N W3 0 W3:=Cu.start yg (by omega) hcs (by rw [hxl];exact htk)
   rw [hW3] at hst
   have HR0:=ajd hR0
   have Y1:=ajd y1
   have Y2:=ajd y2
   have YB:=ajd yb
   have l3:=aF (y1.cell (j:=3) rfl)
   obtain ⟨n,hn'⟩:∃ n,t.list.length=n:=⟨_,rfl⟩
   have Hn:=ajd hn'
   rw [hn'] at hlen HX Y1 hst l3 hcap ⊢
   clear hown hel hmap hb2 hxl hg hcs htk hR0 y1 y2 yg yb hW3 hn' l2
   go_wp2
   clear hst l3
   go_loopw [11] (fun iv wr=>∃ j:Nat,iv= .int .i64 j∧j≤n∧Hid (Cu g cap xs N W3 j wr)) (fun iv _=>n-(intOf iv).toNat)
   case atStart=>exact ⟨0,rfl,Nat.zero_le _,HR0.out⟩
   case round=>
    obtain ⟨j,rfl,hj,HR⟩:=hrel
    have hgw:=HR.out.ZO
    have HK:Hid (∀ v,Below wr.heap.size wr v→(Instr.loadAt 23 (.pointer (some ⟨w.heap.size,3,none⟩))).run Tryz.prog v= .ok (.slice (some ⟨g,0,none⟩) n cap) v):=fun v h=>
     aF (((Y1.out.below HR.out.below (by omega)).below h (by omega)).cell (j:=3) rfl)
    by_cases hlt:j<n
    ·obtain ⟨x,hx⟩:∃ x,xs[j]? =some x:=⟨_,List.getElem?_eq_getElem (by rw [HX.out];exact hlt)⟩
     obtain ⟨hxf,hxl⟩:=HEL.out j x hx
     have hat:=HR.out.rest j x (Nat.le_refl _) hx
     have hnx:nodes x.1≤900000000:=by
      have h1:=pV (l:=t.list) (k:=j) (t:=x.1) (by rw [←HM.out,List.getElem?_map,hx];rfl)
      have:=aX t
      have:=o7.out
      omega
     have hBw:Below B W1 wr:=(P7.out.mono hB).trans (HR.out.below.mono (by omega))
     have HXX:=ajd hx
     have hE:∀ v,Below wr.heap.size wr v→(Instr.loadAt 25 (.pointer (some ⟨g,j*5,none⟩))).run Tryz.prog v= .ok (.agg #[.int .i64 x.1.kind,.int .u64 x.1.num,.string x.1.text,x.2,.int .i64 x.1.elem]) v:=fun v h=>ag (dW (hat.heap (h.block g hgw)))
     have HC:Hid (∀ v,Below wr.heap.size wr v→Calls Tryz.prog 105 #[.agg #[.int .i64 x.1.kind,.int .u64 x.1.num,.string x.1.text,x.2,.int .i64 x.1.elem]] v fun r w'=>∃ gM us,r= .returned (x.1.agg gM)∧OL w' N gM x.1.list us∧ku v.heap.size w'.heap.size us∧aM us∧Below v.heap.size v w'):=fun v h=>
      HS.out B x.1 x.2 v hxf ((hxl.below hBw).below (h.mono (by have:=hBw.size;omega))) (by have:=hBw.size;have:=h.size;omega) hnx
     have hE0:=hE wr.drew (Below.refl _ _).drew
     have hj0:(0:Int)≤(j:Int):=by omega
     have hj1:(j:Int)<(n:Int):=by omega
     clear hx hxf hxl hat hnx hBw hE
     go_wp2
     have hK0:=HK.out wr.drew (Below.refl _ _).drew
     go_region_with
      ((go_at_call 105;refine (HC.out _ (Below.refl _ _).drew).mono ?_;rintro r w5 ⟨lv2,us,rfl,ho,hbk,hap,cB⟩;have hb5:Below wr.heap.size wr.drew w5:=cB;clear cB;obtain ⟨q5,c5,rfl⟩:=ho.slice
        have UG:=sj (z:=5) (k:=j) (off:=0) (dQ HR.out.there (((Below.refl _ _).drew.trans hb5).block g hgw)) (Nat.lt_of_lt_of_le hlt hcap)
        rw [Nat.zero_add] at UG
        have ahN:=aD (t:=x.1) (a:=q5) (n:=x.1.list.length) (c:=c5) UG
        have hK5:=HK.out w5 ((Below.refl _ _).drew.trans hb5)
        obtain ⟨X5,hX5⟩:∃ X5,w5.setCells g (j*5) (x.1.cells (.slice q5 x.1.list.length c5))=X5:=⟨_,rfl⟩
        rw [hX5] at ahN
        have HN:Hid (Cu g cap xs N W3 (j+1) X5):=by rw [←hX5];exact HR.out.step HXX.out (Nat.lt_of_lt_of_le hlt hcap) ((Below.refl _ _).drew.trans hb5) ho hbk hap
        clear UG ho hbk hap hX5))
     all_goals
      go_wp2
      go_roundw
      case rel=>exact ⟨j+1,by go_num,by omega,HN.out⟩
      case measure=>simp [intOf];omega
    ·obtain rfl:j=n:=by omega
     have hR:=HR.out
     rw [←HX.out] at hR
     obtain ⟨us,ho,hbk,hap⟩:=hR.all (by rw [HX.out];exact hcap) (by rw [HX.out];unfold maxLen;omega) (fun i x hx=>(HEL.out i x hx).1)
     rw [HM.out,HX.out] at ho
     have y1:=Y1.out.below HR.out.below (by omega)
     have y2:=Y2.out.below HR.out.below (by omega)
     have l5:=ag y1.1
     have kL:=aD (t:=t) (a:=some ⟨g,0,none⟩) (n:=j) (c:=cap) (y2.part (o:=0) (n:=5) (Nat.le_refl _))
     have y3:=y2.all (vs:=t.cells (.slice (some ⟨g,0,none⟩) j cap)) rfl
     have yb:Below w.heap.size w (wr.setCells (w.heap.size+1) 0 (t.cells (.slice (some ⟨g,0,none⟩) j cap))):=(YB.out.trans (HR.out.below.mono (by omega))).trans (au (by omega) _ _)
     have yo:OL (wr.setCells (w.heap.size+1) 0 (t.cells (.slice (some ⟨g,0,none⟩) j cap))) (N+1) (.slice (some ⟨g,0,none⟩) j cap) t.list us:=ho.heap (by rw [aC];exact Nat.le_refl _) fun u hu b hb=>aA (by have:=hbk u hu b hb;omega) _ _
     have yz:ku w.heap.size (wr.setCells (w.heap.size+1) 0 (t.cells (.slice (some ⟨g,0,none⟩) j cap))).heap.size us:=by rw [aC];exact hbk.mono (by omega) (Nat.le_refl _)
     obtain ⟨X,hX⟩:∃ X,wr.setCells (w.heap.size+1) 0 (t.cells (.slice (some ⟨g,0,none⟩) j cap))=X:=⟨_,rfl⟩
     rw [hX] at kL y3 yb yo yz
     have HF:Hid (OL X (N+1) (.slice (some ⟨g,0,none⟩) j cap) t.list us∧ku w.heap.size X.heap.size us∧aM us∧Below w.heap.size w X):=⟨yo,yz,hap,yb⟩
     have iJ:=ajd (bB y3.1)
     clear hR ho hbk hap y1 y2 y3 yb yo yz hX
     go_wp2
     exact bodyPost_ret_by (dR rfl rfl iJ.out) rfl ⟨_,us,rfl,HF.out⟩
end Go.Proofs.YtmldhjoolebjoaaGreatDoor.Va
namespace Go.Proofs.YtmldhjoolebjoaaGreatDoor.Nm
open Go Go.RowKit Go.CE Nu
theorem mixed:Tryz.prog.follows .mixedOrders=true:=by kernel_rfl
theorem y7:dV Tryz.prog:=Es (by kernel_rfl)
def space:List (Nat×List Value):=[(2,Lib.asciiSpaceTab.map fun z=>Value.int .u8 z)]
def rowOk (h:H) (e:MapEntry) (r:Int×List (List UInt8)) (b:Nat):Bool:=
 (match e.key with
   | .int .i64 k=>decide (k=r.1)
   |_=>false)&&((match PX h 1 e.val r.2.length with
   |some cs=>rU (Dg 8) cs (r.2.map fun s=>Value.string ⟨s.toArray⟩)
   |none=>false)&&Nat.beq e.born b)
def Jy (h:H):List MapEntry→List (Int×List (List UInt8))→Nat→Bool
 |[],[],_=>true
 |e::es,r::rs,b=>rowOk h e r b&&Jy h es rs (b+1)
 |_,_,_=>false
def bM (v:Value) (h:H):Bool:=
 match v with
 | .map (some m)=>match h.hp.get m with
   |some (.map es clock)=>Jy h es rows 0&&(Nat.beq clock 6&&Nat.ble 7 m)
   |_=>false
 |_=>false
theorem evaluated:Ju Tryz.prog 7 1000000 [] 155 [] space bM=true:=by kernel_rfl
def P8 (w:World) (v:Value) (l:List (List UInt8)):Prop:=
 ∃ b off c,v= .slice (some ⟨b,off,none⟩) l.length c∧b<w.heap.size∧∀ i s,l[i]? =some s→w.cell? ⟨b,off+i,none⟩=some (.string ⟨s.toArray⟩)
def Av (w:World) (es:List MapEntry) (b:Nat):List (Int×List (List UInt8))→Prop
 |[]=>es=[]
 |r::rs=>∃ e t,es=e::t∧e.key= .int .i64 r.1∧P8 w e.val r.2∧e.born=b∧Av w t (b+1) rs
theorem RU {h:H} {ρ:CE.Ren} {w:World} (hr:HR 7 h ρ w):∀ (rs:List (Int×List (List UInt8))) (es:List MapEntry) (es':List MapEntry) (b:Nat),Jy h es rs b=true→L2 (oI h.nx ρ) es es'→Av w es' b rs
 |[],[],es',b,_,hl=>hl.bZ
 |[],_::_,_,_,h,_=>by cases h
 |_::_,[],_,_,h,_=>by cases h
 |r::rs,e::es,es',b,hk,hl=>by
  obtain ⟨e',t',rfl,he,ht⟩:=hl.aL
  have hk':(rowOk h e r b&&Jy h es rs (b+1))=true:=hk
  simp only [Bool.and_eq_true] at hk'
  obtain ⟨h1,h2⟩:=hk'
  unfold rowOk at h1
  simp only [Bool.and_eq_true] at h1
  obtain ⟨k1,k2,k3⟩:=h1
  refine ⟨e',t',rfl,?_,?_,by rw [he.2.2];exact Nat.eq_of_beq_eq_true k3,RU hr rs es t' (b+1) h2 ht⟩
  ·have hkey:=he.1
   split at k1
   ·rename_i k hek
    rw [hek] at hkey
    have:k=r.1:=of_decide_eq_true k1
    subst this
    generalize e'.key=y at hkey
    cases hkey
    rfl
   ·cases k1
  ·split at k2
   ·rename_i cs hcs
    have hcs':=wL _ _ k2
    obtain ⟨i,k,c,b',off,c',e1,e2,e3,e4,e5,e6,e7,e8,e9⟩:=RP hr he.2.1 hcs
    refine ⟨b',off,c',e5,e7,fun j s hs=>?_⟩
    obtain ⟨y,hy,hv⟩:=e9 j (.string ⟨s.toArray⟩) (by rw [hcs',List.getElem?_map,hs];rfl)
    rw [hy]
    cases hv
    rfl
   ·cases k2
theorem UH {w:World} {t:TypeId} (hsp:w.heap[2]? =some (.cells (Lib.asciiSpaceTab.map fun z=>Value.int .u8 z).toArray t (0,0))):
 Calls Tryz.prog 155 #[] w fun e w'=>∃ bm es clock,e= .returned (.map (some bm))∧w'.heap[bm]? =some (.map es clock)∧Av w' es.toList 0 rows∧clock=6∧w.heap.size≤bm∧Below w.heap.size w w':=by
 refine (Et mixed y7 (vL _ _) evaluated (w:=w) (J2 (g:=2) (by decide) hsp)).mono ?_
 rintro e w' ⟨v',rfl,⟨v,h,ρ,hok,hv,hr,hnew⟩,hb⟩
 unfold bM at hok
 split at hok
 ·rename_i m
  split at hok
  ·rename_i es clock hm
   simp only [Bool.and_eq_true] at hok
   obtain ⟨h1,h2,h3⟩:=hok
   have hc:clock=6:=Nat.eq_of_beq_eq_true h2
   cases hv with
   |map _ hin=>
    obtain ⟨_,ob,ji,iD⟩:=hr.obj m _ hm
    cases iD with
    |map _ _ es' hm'=>
     exact ⟨(ρ m).1,es',clock,rfl,ji,RU hr rows es es'.toList 0 h1 hm',hc,hnew m (Nat.le_of_ble_eq_true h3) (by rw [hm];simp),hb⟩
  ·cases hok
 ·cases hok
end Go.Proofs.YtmldhjoolebjoaaGreatDoor.Nm
namespace Go.Proofs.YtmldhjoolebjoaaGreatDoor.Fd
open Go Go.RowKit Go.CE Nu Go.Proofs.YtmldhjoolebjoaaGreatDoor.Nm
def Ay (h:H) (size:Nat) (v:Value):Bool:=
 match v with
 | .slice (some ⟨i,k,none⟩) l c=>match h.hp.get i with
   |some (.cells cs)=>Nat.ble l (jK c)&&(Nat.ble 7 i&&bif iO c then Nat.ble (k+jK c*size) cs.length else Nat.beq (lH c) size)
   |_=>false
 |_=>false
def Yc (a b:Value):Bool:=
 match a with
 | .slice (some ⟨i,_,_⟩) _ _=>(match b with
   | .slice (some ⟨j,_,_⟩) _ _=>Nat.beq i j
   |_=>false)
 |_=>false
def Ce:List Value→Bool
 |[]=>true
 |a::r=>r.all (fun b=> !Yc a b)&&Ce r
def y8 (h:H) (ks:List Int) (kv:Value):Bool:=
 match ks with
 |[]=>rU (Dg 8) [kv] [.slice none 0 0]
 |k::r=>Ay h 1 kv&&(match PX h 1 kv (k::r).length with
  |some cs=>rU (Dg 8) cs ((k::r).map (Value.int .i64))
  |none=>false)
def iP (h:H):List FT→List Value→Bool
 |[],[]=>true
 |f::fs,n::t::kv::m::a::b::c::d::e::r=>rU (Dg 8) [n,t,m,a,b,c,d,e] [.string ⟨f.name.toArray⟩,.int .i64 f.type,.bool f.must,.int .i64 f.dk,.int .u64 f.dn,.string ⟨f.dt.toArray⟩,.slice none 0 0,.int .i64 0]&&(y8 h f.kinds kv&&iP h fs r)
 |_,_=>false
def Ez:List Value→List Value
 |_::_::kv::_::_::_::_::_::_::r=>kv::Ez r
 |_=>[]
def P9 (h:H) (x:Value) (fs:List FT):Bool:=
 Ay h 9 x&&(match PX h 9 x fs.length with
  |some cs=>iP h fs cs&&Ce (x::Ez cs)
  |none=>false)
def EA (o:Option (List FT)) (v:Value) (h:H):Bool:=
 match v with
 | .tuple a=>match a.toList with
   |[x,y]=>(match o with
    |none=>rU (Dg 8) [x,y] [.slice none 0 0,.bool false]
    |some []=>rU (Dg 8) [x,y] [.slice none 0 0,.bool true]
    |some (f::fs)=>rU (Dg 8) [y] [.bool true]&&P9 h x (f::fs))
   |_=>false
 |_=>false
def MQ (lo hi:Nat) (w:World) (sz:Nat) (v:Value) (n:Nat) (cs:List Value):Prop:=
 ∃ b off c,v= .slice (some ⟨b,off,none⟩) n c∧lo≤b∧b<hi∧hi≤w.heap.size∧n≤c∧w.there b off (c*sz)∧w.rangeAt b off cs
def jq (lo hi:Nat) (w:World) (kv:Value) (ks:List Int):Prop:=(ks=[]∧kv= .slice none 0 0)∨(ks≠[]∧MQ lo hi w 1 kv ks.length (ks.map (Value.int .i64)))
def fA (f:FT) (kv:Value):List Value:=[.string ⟨f.name.toArray⟩,.int .i64 f.type,kv,.bool f.must,.int .i64 f.dk,.int .u64 f.dn,.string ⟨f.dt.toArray⟩,.slice none 0 0,.int .i64 0]
def Az:List FT→List Value→List Value
 |f::fs,kv::kvs=>fA f kv++Az fs kvs
 |_,_=>[]
def Yd (vs:List Value):Prop:=vs.Pairwise fun a b=>∀ x,a.ownBlock=some x→b.ownBlock≠some x
def j6 (lo hi:Nat) (w:World) (v:Value) (fs:List FT):Prop:=
 (fs=[]∧v= .slice none 0 0)∨(fs≠[]∧∃ kvs:List Value,kvs.length=fs.length∧MQ lo hi w 9 v fs.length (Az fs kvs)∧
   (∀ (i:Nat) (f:FT) (kv:Value),fs[i]? =some f→kvs[i]? =some kv→jq lo hi w kv f.kinds)∧Yd (v::kvs))
section
variable {h:H} {ρ:CE.Ren} {w:World} {lo:Nat}
theorem MR (hr:HR 7 h ρ w) (hnew:∀ i,7≤i→h.hp.get i≠none→lo≤(ρ i).1) {size n:Nat} {v v':Value} {cs:List Value} (hf:Ay h size v=true) (hv:VR h.nx ρ v v') (hc:PX h size v n=some cs):
 ∃ cs',L2 (VR h.nx ρ) cs cs'∧MQ lo w.heap.size w size v' n cs':=by
 obtain ⟨i,k,c,b,off,c',rfl,hne,rfl,rfl,rfl,hcap,hlt,hlen,hcell⟩:=RP hr hv hc
 let cs':List Value:=(List.range cs.length).map fun j=>(w.cell? ⟨(ρ i).1,(ρ i).2.1+k+j,none⟩).getD .nilFunc
 have hget:∀ j x,cs[j]? =some x→∃ y,cs'[j]? =some y∧w.cell? ⟨(ρ i).1,(ρ i).2.1+k+j,none⟩=some y∧VR h.nx ρ x y:=by
  intro j x hx
  obtain ⟨y,h1,h2⟩:=hcell j x hx
  refine ⟨y,?_,h1,h2⟩
  have hj:=(List.getElem?_eq_some_iff.1 hx).1
  show ((List.range cs.length).map _)[j]? =_
  rw [List.getElem?_map,List.getElem?_range hj,Option.map_some,h1];rfl
 have hl:cs'.length=cs.length:=by simp [cs']
 unfold Ay at hf
 simp only at hf
 split at hf
 ·rename_i ds hds
  simp only [Bool.and_eq_true] at hf
  obtain ⟨f1,f2,f3⟩:=hf
  obtain ⟨_,ob,ji,iD⟩:=hr.obj i _ hds
  cases iD with
  |cells _ cc e fz hz hlen' hcv hfz=>
   have h1:n≤c'∧(ρ i).2.1+k+c'*size≤cc.size:=by
    have f1:=Nat.le_of_ble_eq_true f1
    unfold mJ at hcap
    by_cases he:iO c=true
    ·rw [if_pos he] at hcap
     rw [he,cond_true] at f3
     have f3:=Nat.le_of_ble_eq_true f3
     rw [hcap]
     exact ⟨f1,by omega⟩
    ·rw [if_neg he] at hcap
     rw [Bool.not_eq_true] at he
     rw [he,cond_false] at f3
     have f3:=Nat.eq_of_beq_eq_true f3
     rw [f3] at hcap
     exact ⟨by omega,by rw [hz];exact hcap.2⟩
   refine ⟨cs',⟨hl.symm,fun j x y hx hy=>?_⟩,_,_,c',rfl,hnew i (Nat.le_of_ble_eq_true f2) hne,hlt,Nat.le_refl _,h1.1,fun j hj=>⟨?_,?_⟩,fun j y hy=>?_⟩
   ·obtain ⟨y',a,_,b⟩:=hget j x hx
    rw [a] at hy
    cases hy
    exact b
   ·unfold World.cell?
    rw [ji]
    simp
    omega
   ·unfold World.frozen?
    rw [ji]
    simp
    omega
   ·have hj:=(List.getElem?_eq_some_iff.1 hy).1
    obtain ⟨y',a,b,_⟩:=hget j _ (List.getElem?_eq_getElem (by omega:j<cs.length))
    rw [a] at hy
    cases hy
    exact b
 ·cases hf
theorem Ye {n:Nat} {s:ByteArray} {y:Value} (h:VR n ρ (.string s) y):y= .string s:=by cases h;rfl
theorem EB {n:Nat} {k:IntKind} {m:Int} {y:Value} (h:VR n ρ (.int k m) y):y= .int k m:=by cases h;rfl
theorem Cf {n:Nat} {m:Bool} {y:Value} (h:VR n ρ (.bool m) y):y= .bool m:=by cases h;rfl
theorem Jz {n:Nat} {y:Value} (h:VR n ρ (.slice none 0 0) y):y= .slice none 0 0:=by cases h;rfl
theorem RX {n:Nat}:∀ {ks:List Int} {cs':List Value},L2 (VR n ρ) (ks.map (Value.int .i64)) cs'→cs'=ks.map (Value.int .i64)
 |[],cs',hl=>hl.bZ
 |k::ks,cs',hl=>by
  obtain ⟨y,t,rfl,h1,h2⟩:=L2.aL hl
  rw [EB h1,RX h2];rfl
theorem Qa (hr:HR 7 h ρ w) (hnew:∀ i,7≤i→h.hp.get i≠none→lo≤(ρ i).1) {ks:List Int} {v v':Value} (hk:y8 h ks v=true) (hv:VR h.nx ρ v v'):jq lo w.heap.size w v' ks:=by
 cases ks with
 |nil=>
  have:=wL _ _ hk
  cases this
  exact .inl ⟨rfl,Jz hv⟩
 |cons k r=>
  unfold y8 at hk
  simp only [Bool.and_eq_true] at hk
  obtain ⟨h1,h2⟩:=hk
  split at h2
  ·rename_i cs hcs
   obtain ⟨cs',hl,hrow⟩:=MR hr hnew h1 hv hcs
   rw [wL _ _ h2] at hl
   rw [RX hl] at hrow
   exact .inr ⟨by simp,hrow⟩
  ·cases h2
theorem He:∀ (fs:List FT) (cs cs':List Value),iP h fs cs=true→L2 (VR h.nx ρ) cs cs'→∃ kc,kc.length=fs.length∧L2 (VR h.nx ρ) (Ez cs) kc∧cs'=Az fs kc∧∀ (i:Nat) (f:FT) (a:Value),fs[i]? =some f→(Ez cs)[i]? =some a→y8 h f.kinds a=true
 |[],[],cs',_,hl=>⟨[],rfl,⟨rfl,fun i x y hx=>by simp [Ez] at hx⟩,hl.bZ,fun i f a hf=>by simp at hf⟩
 |[],_::_,_,hk,_=>by simp [iP] at hk
 |f::fs,cs,cs',hk,hl=>by
  match cs,hk,hl with
  |n::t::kv::m::a::b::c::d::e::r,hk,hl=>
   simp only [iP,Bool.and_eq_true] at hk
   obtain ⟨h1,h2,h3⟩:=hk
   have e1:=wL _ _ h1
   simp only [List.cons.injEq,and_true] at e1
   obtain ⟨rfl,rfl,rfl,rfl,rfl,rfl,rfl,rfl⟩:=e1
   obtain ⟨n',l1,rfl,g1,hl⟩:=L2.aL hl
   obtain ⟨t',l2,rfl,g2,hl⟩:=L2.aL hl
   obtain ⟨kv',l3,rfl,g3,hl⟩:=L2.aL hl
   obtain ⟨m',l4,rfl,g4,hl⟩:=L2.aL hl
   obtain ⟨a',l5,rfl,g5,hl⟩:=L2.aL hl
   obtain ⟨b',l6,rfl,g6,hl⟩:=L2.aL hl
   obtain ⟨c',l7,rfl,g7,hl⟩:=L2.aL hl
   obtain ⟨d',l8,rfl,g8,hl⟩:=L2.aL hl
   obtain ⟨e',l9,rfl,g9,hl⟩:=L2.aL hl
   obtain ⟨kc,k1,k2,k3,k4⟩:=He fs r l9 h3 hl
   refine ⟨kv'::kc,by simp [k1],⟨by simp [Ez,k2.1],fun i x y hx hy=>?_⟩,?_,fun i f' a hf ha=>?_⟩
   ·cases i with
    |zero=>simp [Ez] at hx hy;subst hx;subst hy;exact g3
    |succ i=>simp [Ez] at hx hy;exact k2.2 i x y hx hy
   ·rw [Ye g1,EB g2,Cf g4,EB g5,EB g6,Ye g7,Jz g8,EB g9,k3];rfl
   ·cases i with
    |zero=>simp [Ez] at hf ha;subst hf;subst ha;exact h2
    |succ i=>simp [Ez] at hf ha;exact k4 i f' a hf ha
  |[],hk,_=>simp [iP] at hk
  |[_],hk,_=>simp [iP] at hk
  |[_,_],hk,_=>simp [iP] at hk
  |[_,_,_],hk,_=>simp [iP] at hk
  |[_,_,_,_],hk,_=>simp [iP] at hk
  |[_,_,_,_,_],hk,_=>simp [iP] at hk
  |[_,_,_,_,_,_],hk,_=>simp [iP] at hk
  |[_,_,_,_,_,_,_],hk,_=>simp [iP] at hk
  |[_,_,_,_,_,_,_,_],hk,_=>simp [iP] at hk
theorem Yf {v v':Value} {x:Nat} (hv:VR h.nx ρ v v') (hx:v'.ownBlock=some x):∃ i k l c,v= .slice (some ⟨i,k,none⟩) l c∧x=(ρ i).1:=by
 cases hv with
 |slice i k l c c' hin hcap=>exact ⟨i,k,l,c,rfl,by simpa [Value.ownBlock] using hx.symm⟩
 |_=>simp [Value.ownBlock] at hx
theorem EC (hr:HR 7 h ρ w):∀ (vs vs':List Value),Ce vs=true→L2 (VR h.nx ρ) vs vs'→(∀ v∈vs,∀ i k l c,v= .slice (some ⟨i,k,none⟩) l c→h.hp.get i≠none)→Yd vs'
 |[],vs',_,hl,_=>by rw [hl.bZ];exact List.Pairwise.nil
 |a::r,vs',ha,hl,hlv=>by
  obtain ⟨a',r',rfl,g1,g2⟩:=L2.aL hl
  simp only [Ce,Bool.and_eq_true] at ha
  refine List.Pairwise.cons (fun b' hb' x hx hx'=>?_) (EC hr r r' ha.2 g2 fun v hv=>hlv v (List.mem_cons_of_mem _ hv))
  obtain ⟨j,hj⟩:=List.getElem?_of_mem hb'
  have hjl:j<r.length:=by rw [g2.1];exact (List.getElem?_eq_some_iff.1 hj).1
  have hb:=g2.2 j _ _ (List.getElem?_eq_getElem hjl) hj
  obtain ⟨i,k,l,c,rfl,e1⟩:=Yf g1 hx
  obtain ⟨i',k',l',c',e,e2⟩:=Yf hb hx'
  have hmem:r[j]∈r:=List.getElem_mem hjl
  have h1:=hlv _ List.mem_cons_self i k l c rfl
  have h2:=hlv _ (List.mem_cons_of_mem _ hmem) i' k' l' c' e
  have e3:=hr.inj i i' h1 h2 (e1.symm.trans e2)
  have:=List.all_eq_true.1 ha.1 _ hmem
  rw [e,e3] at this
  simp [Yc] at this
theorem BB {size:Nat} {v:Value} (hf:Ay h size v=true) {i k l c:Nat} (e:v= .slice (some ⟨i,k,none⟩) l c):h.hp.get i≠none:=by
 subst e
 unfold Ay at hf
 simp only at hf
 split at hf
 ·rename_i hh;rw [hh];simp
 ·cases hf
theorem UI (hr:HR 7 h ρ w) (hnew:∀ i,7≤i→h.hp.get i≠none→lo≤(ρ i).1) {fs:List FT} (hne:fs≠[]) {v v':Value} (hk:P9 h v fs=true) (hv:VR h.nx ρ v v'):j6 lo w.heap.size w v' fs:=by
 unfold P9 at hk
 simp only [Bool.and_eq_true] at hk
 obtain ⟨h1,h2⟩:=hk
 split at h2
 ·rename_i cs hcs
  simp only [Bool.and_eq_true] at h2
  obtain ⟨h2,h3⟩:=h2
  obtain ⟨cs',hl,hrow⟩:=MR hr hnew h1 hv hcs
  obtain ⟨kc,k1,k2,rfl,k4⟩:=He fs cs cs' h2 hl
  refine .inr ⟨hne,kc,k1,hrow,fun i f kv hf hkv=>?_,?_⟩
  ·have hi:i<(Ez cs).length:=by rw [k2.1];exact (List.getElem?_eq_some_iff.1 hkv).1
   exact Qa hr hnew (k4 i f _ hf (List.getElem?_eq_getElem hi)) (k2.2 i _ _ (List.getElem?_eq_getElem hi) hkv)
  ·refine EC hr _ _ h3 ⟨by simp [k2.1],fun i x y hx hy=>?_⟩ fun u hu i k l c e=>?_
   ·cases i with
    |zero=>simp at hx hy;subst hx;subst hy;exact hv
    |succ i=>simp at hx hy;exact k2.2 i x y hx hy
   ·rcases List.mem_cons.1 hu with rfl|hu
    ·exact BB h1 e
    ·obtain ⟨j,hj⟩:=List.getElem?_of_mem hu
     have hjl:=(List.getElem?_eq_some_iff.1 hj).1
     obtain ⟨f,hf⟩:∃ f,fs[j]? =some f:=⟨_,List.getElem?_eq_getElem (by rw [←k1,←k2.1];exact hjl)⟩
     have:=k4 j f u hf hj
     subst e
     cases hks:f.kinds with
     |nil=>rw [hks] at this;have:=wL _ _ this;simp at this
     |cons q r=>
      rw [hks] at this
      unfold y8 at this
      simp only [Bool.and_eq_true] at this
      exact BB this.1 rfl
 ·cases h2
theorem MS (hr:HR 7 h ρ w) (hnew:∀ i,7≤i→h.hp.get i≠none→lo≤(ρ i).1) {o:Option (List FT)} {v v':Value} (hk:EA o v h=true) (hv:VR h.nx ρ v v'):
 ∃ x,v'= .tuple #[x,.bool o.isSome]∧j6 lo w.heap.size w x (o.getD []):=by
 unfold EA at hk
 split at hk
 ·rename_i a
  split at hk
  ·rename_i x y hxy
   cases hv with
   |tuple _ a' ha hA=>
    have hl:L2 (VR h.nx ρ) [x,y] a'.toList:=by rw [←hxy];exact ⟨ha,hA⟩
    obtain ⟨x',l1,e1,g1,hl⟩:=L2.aL hl
    obtain ⟨y',l2,rfl,g2,hl⟩:=L2.aL hl
    have e2:=hl.bZ
    subst e2
    have ea:a'= #[x',y']:=by apply Array.ext';rw [e1]
    subst ea
    match o,hk with
    |none,hk=>
     have:=wL _ _ hk
     simp only [List.cons.injEq,and_true] at this
     obtain ⟨rfl,rfl⟩:=this
     exact ⟨x',by rw [Cf g2];rfl,.inl ⟨rfl,Jz g1⟩⟩
    |some [],hk=>
     have:=wL _ _ hk
     simp only [List.cons.injEq,and_true] at this
     obtain ⟨rfl,rfl⟩:=this
     exact ⟨x',by rw [Cf g2];rfl,.inl ⟨rfl,Jz g1⟩⟩
    |some (f::fs),hk=>
     simp only [Bool.and_eq_true] at hk
     have:=wL _ _ hk.1
     simp only [List.cons.injEq,and_true] at this
     subst this
     exact ⟨x',by rw [Cf g2];rfl,UI hr hnew (by simp) hk.2 g1⟩
  ·cases hk
 ·cases hk
end
def gH (k:Int) (w:World) (r:Ending) (w':World):Prop:=∃ x,r= .returned (.tuple #[x,.bool (aN k).isSome])∧j6 w.heap.size w'.heap.size w' x ((aN k).getD [])∧Below w.heap.size w w'
def eX (f:FuncId) (k:Int) (o:Option (List FT)):Bool:=Ju Tryz.prog 7 1000000 [] f [.int .i64 k] [] (EA o)
theorem fields_of {f:FuncId} {k:Int} (h:eX f k (aN k)=true) (w:World):Calls Tryz.prog f #[.int .i64 k] w (gH k w):=by
 refine (Et mixed y7 (vL _ _) h (w:=w) (G9 _ _)).mono ?_
 rintro e w' ⟨v',rfl,⟨v,h,ρ,hok,hv,hr,hnew⟩,hb⟩
 obtain ⟨x,rfl,hx⟩:=MS hr hnew hok hv
 exact ⟨x,rfl,hx,hb⟩
theorem high (j:Nat):aN (Int.ofNat (j+121))=none:=by
 show iN (j+121)=none
 have:∀ e∈tab,Nat.beq e.1 (j+121)=false:=fun e he=>by
  have hb:∀ e∈tab,e.1<121:=by decide
  have:=hb e he
  cases hh:Nat.beq e.1 (j+121) with
  |false=>rfl
  |true=>have:=Nat.eq_of_beq_eq_true hh;omega
 unfold iN
 rw [List.find?_eq_none.2 (fun e he=>by rw [this e he];simp)]
 rfl
theorem Yg {f:FuncId} (h1:∀ j,eX f (Int.negSucc j) none=true) (h2:∀ j:Nat,eX f (Int.ofNat (j+121)) none=true)
 (h3:((List.range 22).all fun k=>eX f (Int.ofNat k) (iN k))=true) (h4:((List.range 30).all fun k=>eX f (Int.ofNat (k+22)) (iN (k+22)))=true) (h5:((List.range 69).all fun k=>eX f (Int.ofNat (k+52)) (iN (k+52)))=true):∀ k:Int,eX f k (aN k)=true
 | .negSucc j=>h1 j
 | .ofNat n=>by
   by_cases a:n<22
   ·exact List.all_eq_true.1 h3 n (List.mem_range.2 a)
   ·by_cases b:n<52
    ·have:=List.all_eq_true.1 h4 (n-22) (List.mem_range.2 (by omega))
     rwa [show n-22+22=n by omega] at this
    ·by_cases c:n<121
     ·have:=List.all_eq_true.1 h5 (n-52) (List.mem_range.2 (by omega))
      rwa [show n-52+52=n by omega] at this
     ·have:=h2 (n-121)
      have hh:=high (n-121)
      rw [show n-121+121=n by omega] at this hh
      rw [hh];exact this
theorem aaB (j:Nat):eX 93 (Int.negSucc j) none=true:=by kernel_rfl
theorem aaC (j:Nat):eX 93 (Int.ofNat (j+121)) none=true:=by kernel_rfl
theorem f_a:((List.range 22).all fun k=>eX 93 (Int.ofNat k) (iN k))=true:=by kernel_rfl
theorem f_b:((List.range 30).all fun k=>eX 93 (Int.ofNat (k+22)) (iN (k+22)))=true:=by kernel_rfl
theorem f_c:((List.range 69).all fun k=>eX 93 (Int.ofNat (k+52)) (iN (k+52)))=true:=by kernel_rfl
theorem xE (k:Int) (w:World):Calls Tryz.prog 93 #[.int .i64 k] w (gH k w):=fields_of (Yg aaB aaC f_a f_b f_c k) w
end Go.Proofs.YtmldhjoolebjoaaGreatDoor.Fd
