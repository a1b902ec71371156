/-
  The texts SU of this claim, one behind the other.
-/
import Derived.Test.YtfoiaiblggapeaaGreatDoorZPUC0
set_option maxRecDepth 100000
namespace Go.Proofs.YtfoiaiblggapeaaGreatDoor.Va
open Go Go.RowKit Nu Uc
attribute [-go_sem] Go.Instr.loadAt Go.Instr.storeAt
def recK (a:Except (Nat×Int) (Int×List VT)):Int:=match a with| .ok q=>q.1| .error _=>0
def recL (a:Except (Nat×Int) (Int×List VT)):List VT:=match a with| .ok q=>q.2| .error _=>[]
def recI (a:Except (Nat×Int) (Int×List VT)):Int:=match a with| .ok _=>0| .error q=>q.1
def recE (a:Except (Nat×Int) (Int×List VT)):Int:=match a with| .ok _=>0| .error q=>q.2
theorem UnAns.get2 {a:Except (Nat×Int) (Int×List VT)} {w w':World} {r:Ending} (h:UnAns a w r w'):Below w.heap.size w w'∧∃ q d us,r= .returned (.tuple #[.agg #[.int .i64 (recK a),.slice q (recL a).length d],.int .i64 (recI a),.int .i64 (recE a)])∧OL w' LV (.slice q (recL a).length d) (recL a) us∧Blk w.heap.size w'.heap.size us∧ApartV us:=by
 obtain ⟨hb,h⟩:=h
 refine ⟨hb,?_⟩
 cases a with
 |ok q=>
  obtain ⟨k,l⟩:=q
  obtain ⟨lv,us,h1,h2,h3,h4⟩:=h
  obtain ⟨q,d,rfl⟩:=h2.slice
  exact ⟨q,d,us,h1,h2,h3,h4⟩
 |error q=>
  obtain ⟨i,e⟩:=q
  exact ⟨none,0,[.slice none 0 0],h,OL.nil _ _,Blk.none _ _,ApartV.one _⟩
theorem RUnAns.get2 {P:Nat→Prop} {a:Except (Nat×Int) (Int×List VT)} {w w':World} {r:Ending} (h:RUnAns P a w r w'):Below w.heap.size w w'∧∃ q d M,r= .returned (.tuple #[.agg #[.int .i64 (recK a),.slice q (recL a).length d],.int .i64 (recI a),.int .i64 (recE a)])∧LAtP (fun b=>P b∨w.heap.size≤b) w' M (.slice q (recL a).length d) (recL a):=by
 obtain ⟨hb,h⟩:=h
 refine ⟨hb,?_⟩
 cases a with
 |ok q=>
  obtain ⟨k,l⟩:=q
  obtain ⟨lv,M,h1,h2⟩:=h
  obtain ⟨q,d,rfl⟩:=h2.slice
  exact ⟨q,d,M,h1,h2⟩
 |error q=>
  obtain ⟨i,e⟩:=q
  exact ⟨none,0,1,h,LAtP.nil _ _ _⟩
theorem listV (l:List VT) (N:Nat) (w:World) (lv:Value) (h:LAt w.heap.size w N lv l):VAt w.heap.size w N (.agg #[.int .i64 0,.int .u64 0,.string ⟨#[]⟩,lv,.int .i64 0]) (.mk 0 0 ⟨#[]⟩ 0 l):=
 ⟨⟨by show _≤(0:Int);omega,by show (0:Int)≤_;omega,by show (0:Int)≤0;omega,by show (0:Int)≤_;omega,by show _≤(0:Int);omega,by show (0:Int)≤_;omega,by show (0:Nat)≤_;omega⟩,lv,rfl,h⟩
theorem equalAll_any {N:Nat} {l:List VT} {q q':Option Addr} {d d':Nat} {w:World} (h:LAt w.heap.size w N (.slice q l.length d) l) (h':LAt w.heap.size w N (.slice q' l.length d') l):Calls Tryz.prog 51 #[.slice q l.length d,.slice q' l.length d'] w fun r w'=>r= .returned (.bool true)∧Below w.heap.size w w':=by
 have HE:Hid (Calls Tryz.prog 21 #[.agg #[.int .i64 0,.int .u64 0,.string ⟨#[]⟩,.slice q l.length d,.int .i64 0],.agg #[.int .i64 0,.int .u64 0,.string ⟨#[]⟩,.slice q' l.length d',.int .i64 0]] w fun r w'=>r= .returned (.bool true)∧Below w.heap.size w w'):=by
  have:=equal_any (listV l N w _ h) (listV l N w _ h') (Nat.le_refl _)
  rw [eqT_self] at this
  exact this
 clear h h'
 go_enter Tryz.func51,Tryz.ntmps51
 go_wp2_with (go_at_call 21;refine HE.out.mono ?_;rintro r w2 ⟨rfl,hb2⟩;have HB:=Lib.hid hb2;clear hb2)
 go_ret
 exact ⟨rfl,HB.out⟩
theorem sameRec_any {N:Nat} {k:Int} {l:List VT} {q q':Option Addr} {d d':Nat} {w:World} (h:LAt w.heap.size w N (.slice q l.length d) l) (h':LAt w.heap.size w N (.slice q' l.length d') l):Calls Tryz.prog 28 #[.agg #[.int .i64 k,.slice q l.length d],.agg #[.int .i64 k,.slice q' l.length d']] w fun r w'=>r= .returned (.bool true)∧Below w.heap.size w w':=by
 obtain ⟨W1,hW1⟩:∃ W1,(w.alloc (.cells #[.int .i64 k,.slice q l.length d] 33)).alloc (.cells #[.int .i64 k,.slice q' l.length d'] 33)=W1:=⟨_,rfl⟩
 obtain ⟨x1,x2,hz1,hb1⟩:=two_boxes (cs:=[.int .i64 k,.slice q l.length d]) (ds:=[.int .i64 k,.slice q' l.length d']) hW1
 have l1:=wload_slice (x1.cell (j:=1) rfl)
 have l2:=wload_slice (x2.cell (j:=1) rfl)
 have HE:=Lib.hid (equalAll_any ((h.below hb1).up (by omega)) ((h'.below hb1).up (by omega)))
 have HLD:Hid (∀ v,Below W1.heap.size W1 v→(Instr.loadAt 3 (.pointer (some ⟨w.heap.size,0,none⟩))).run Tryz.prog v= .ok (.int .i64 k) v∧(Instr.loadAt 3 (.pointer (some ⟨w.heap.size+1,0,none⟩))).run Tryz.prog v= .ok (.int .i64 k) v∧Below w.heap.size w v):=fun v hv=>
  ⟨pload_int ((x1.below hv (by omega)).cell (j:=0) rfl),pload_int ((x2.below hv (by omega)).cell (j:=0) rfl),hb1.trans (hv.mono (by omega))⟩
 clear h h' x1 x2 hb1
 go_enter Tryz.func28,Tryz.ntmps28
 go_wp2_with (go_at_call 51;refine HE.out.mono ?_;rintro r w2 ⟨rfl,hb2⟩;obtain ⟨m1,m2,hb⟩:=HLD.out w2 hb2;have HB:=Lib.hid hb;clear hb hb2)
 go_ret
 exact ⟨by simp,HB.out⟩
theorem unans_small (t:VT) (C:Int):nodesL (recL (unAns t C))≤2*(nodes t+13):=by
 unfold unAns
 split
 ·cases h:unpackF 3 t with
  |error e=>show nodesL []≤_;simp [nodesL]
  |ok q=>
   obtain ⟨k,l⟩:=q
   have:=unpack_nodes2 (mild2F 3) h
   show nodesL l≤_
   omega
 ·show nodesL []≤_
  simp [nodesL]
end Go.Proofs.YtfoiaiblggapeaaGreatDoor.Va
