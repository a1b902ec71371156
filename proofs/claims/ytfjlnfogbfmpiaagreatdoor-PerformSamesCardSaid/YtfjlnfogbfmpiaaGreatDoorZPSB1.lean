/-
  The texts S2 L1 L2 L3 V3 ShU O1 O2 O3 of this claim, one behind the other.
-/
import Derived.Test.YtfjlnfogbfmpiaaGreatDoorZPSB0
import Derived.Laws.NewBlocks
import Derived.Test.YtfjlnfogbfmpiaaGreatDoorZPSA0
import Derived.Laws.MakeOwn
import Derived.Deep.RegionHeld3
import Derived.Deep.DrawnRows
import Derived.Shelf.Unicode.DecodeAny
import Derived.Shelf.Small.Strs
import Derived.Shelf.SlSortCmp.WholeK
import Derived.Shelf.SlSortCmp.NoneTotal
import Derived.Shelf.SlicesQ.IndexFunc
import Derived.Shelf.SlicesE.Clone
import Derived.Test.YtfjlnfogbfmpiaaGreatDoorProg
set_option maxHeartbeats 40000000
set_option maxRecDepth 100000
namespace Go.Proofs.YtfjlnfogbfmpiaaGreatDoor.Va
open Go Go.RowKit Nu
theorem greatAll_any {N B:Nat} {l:List VT} {lv:Value} {w:World} (hl:LAt B w N lv l) (hB:B≤w.heap.size):
 Calls Tryz.prog 14 #[lv] w fun r w'=>r= .returned (.bool (decide (100000<wts l 0)))∧Below w.heap.size w w':=by
 have HL:=Lib.hid hl
 obtain ⟨p,c,rfl⟩:=hl.slice
 have hlen:l.length≤9223372036854775807:=hl.len
 clear hl
 obtain ⟨n,hn⟩:∃ n,l.length=n:=⟨_,rfl⟩
 have Hn:=Lib.hid hn
 rw [hn] at hlen ⊢
 clear hn
 go_enter Tryz.func14,Tryz.ntmps14
 go_wp2
 go_loopw [3,4] (fun v i wr=>∃ (j q:Nat),v= .int .i64 q∧i= .int .i64 j∧j≤n∧Hid (wts (l.drop j) q=wts l 0)∧Hid (Below w.heap.size w wr)) (fun _ i _=>n-(intOf i).toNat)
 case atStart=>exact ⟨0,0,rfl,rfl,Nat.zero_le _,rfl,Below.refl _ _⟩
 case round=>
  obtain ⟨j,q,rfl,rfl,hj,HQ,hb⟩:=hrel
  have hend:∀ (q':Nat),¬j<n∨100000<q→(q:Nat)=wts l 0:=fun _ h=>by
   have:=HQ.out
   rcases h with h|h
   ·obtain rfl:j=n:=by omega
    rw [←Hn.out,wts_end] at this;omega
   ·rw [wts_big _ h] at this;omega
  have hE:=Lib.hid hend;clear hend
  by_cases hlt:j<n
  ·have hlt':(j:Int)<(n:Int):=by omega
   by_cases hq:q≤100000
   ·cases N with
    |zero=>exact HL.out.elim
    |succ N=>
     rcases HL.out with ⟨h0,_⟩|⟨b,off,c',hp,hbB,_,hel⟩
     ·rw [←Hn.out,h0] at hlt;exact absurd hlt (by simp)
     rw [Hn.out] at hp
     cases hp
     obtain ⟨t,ht⟩:∃ t,l[j]? =some t:=⟨_,List.getElem?_eq_getElem (by rw [Hn.out];exact hlt)⟩
     obtain ⟨hf,lv,hat,hl⟩:=hel j t ht
     have hbw:Below B w wr:=hb.out.mono hB
     obtain ⟨e0,e1,e2,e3,e4⟩:=hat.below hbw hbB
     have hst:=Lib.hid (wts_step ht hq)
     have HC:Hid (Calls Tryz.prog 41 #[.agg #[.int .i64 t.kind,.int .u64 t.num,.string t.text,lv,.int .i64 t.elem],.int .i64 q] wr fun r w'=>r= .returned (.int .i64 (wt t q:Nat))∧Below wr.heap.size wr w'):=
      weigh_any (N:=N) (B:=B) (t:=t) (n:=q) ⟨hf,lv,rfl,hl.below hbw⟩ (by have:=hb.out.size;omega) hq
     clear hel hl hat ht
     go_wp2_with (go_at_call 41;refine HC.out.mono ?_;rintro r w2 ⟨rfl,hb2⟩)
     go_roundw
     case rel=>exact ⟨j+1,_,rfl,by go_num,by omega,by rw [←hst.out];exact HQ.out,hb.out.trans (hb2.mono hb.out.size)⟩
     case measure=>simp [intOf];omega
   ·have hq':¬((q:Int)≤100000):=by omega
    go_wp2
    go_ret
    refine ⟨ret_bool ?_,hb.out⟩
    rw [←hE.out q (.inr (by omega)),Bool.eq_iff_iff];simp<;>omega
  ·have hlt':¬((j:Int)<(n:Int)):=by omega
   go_wp2
   all_goals
    go_ret
    refine ⟨ret_bool ?_,hb.out⟩
    rw [←hE.out q (.inl hlt),Bool.eq_iff_iff];simp<;>omega
def LentS (N:Nat):Prop:=∀ (B:Nat) (lv:Value) (l:List VT) (w:World),LAt B w N lv l→Sms l→B≤w.heap.size→
    Calls Tryz.prog 42 #[lv] w fun r w'=>∃ v',r= .returned v'∧LentAt w' N w.heap.size w'.heap.size v' l∧Below w.heap.size w w'
theorem lsize_alloc (w:World) (o:Obj):(w.alloc o).heap.size=w.heap.size+1:=Array.size_push ..
theorem heap_new (w:World) (o:Obj):(w.alloc o).heap[w.heap.size]? =some o:=by
 show (w.heap.push o)[w.heap.size]? =some o
 simp
theorem below_boxes2 (w:World) (o o':Obj):Below w.heap.size w ((w.alloc o).alloc o'):=((Below.refl _ _).alloc (Nat.le_refl _) _).alloc (by rw [lsize_alloc];omega) _
theorem lent_box (w:World) (a0 a1 a2 a3 a4 z0 z1 z2 z3 z4:Value) (T:TypeId) (w':World) (hb:Below (w.heap.size+2) ((w.alloc (.cells #[a0,a1,a2,a3,a4] T)).alloc (.cells #[z0,z1,z2,z3,z4] T)) w'):
 (w'.cell? ⟨w.heap.size,0,none⟩=some a0∧w'.cell? ⟨w.heap.size,1,none⟩=some a1∧w'.cell? ⟨w.heap.size,2,none⟩=some a2∧w'.cell? ⟨w.heap.size,3,none⟩=some a3∧w'.cell? ⟨w.heap.size,4,none⟩=some a4∧w'.frozen? ⟨w.heap.size,3,none⟩=false)∧
 (w'.cell? ⟨w.heap.size+1,0,none⟩=some z0∧w'.cell? ⟨w.heap.size+1,1,none⟩=some z1∧w'.cell? ⟨w.heap.size+1,2,none⟩=some z2∧w'.cell? ⟨w.heap.size+1,3,none⟩=some z3∧w'.cell? ⟨w.heap.size+1,4,none⟩=some z4)∧
 (w'.frozen? ⟨w.heap.size+1,0,none⟩=false∧w'.frozen? ⟨w.heap.size+1,1,none⟩=false∧w'.frozen? ⟨w.heap.size+1,2,none⟩=false∧w'.frozen? ⟨w.heap.size+1,3,none⟩=false∧w'.frozen? ⟨w.heap.size+1,4,none⟩=false)∧
 w'.heap[w.heap.size+1]? =some (.cells #[z0,z1,z2,z3,z4] T (0,0)):=by
 have h0:w'.heap[w.heap.size]? =some (.cells #[a0,a1,a2,a3,a4] T (0,0)):=(hb.block _ (by omega)).trans ((Below.heap_alloc _ _ _ (by rw [lsize_alloc];omega)).trans (heap_new _ _))
 have h1:w'.heap[w.heap.size+1]? =some (.cells #[z0,z1,z2,z3,z4] T (0,0)):=(hb.block _ (by omega)).trans (by rw [←lsize_alloc w];exact heap_new _ _)
 refine ⟨⟨?_,?_,?_,?_,?_,?_⟩,⟨?_,?_,?_,?_,?_⟩,⟨?_,?_,?_,?_,?_⟩,h1⟩
 all_goals simp [World.cell?,World.frozen?,h0,h1]
theorem lent_of {N:Nat} (hS:LentS N) (B:Nat) (k m:Int) (s:ByteArray) (e:Int) (l:List VT) (lv:Value) (w:World) (hl:LAt B w N lv l) (hs:Sms l) (hB:B≤w.heap.size):
 Calls Tryz.prog 15 #[.agg #[.int .i64 k,.int .u64 m,.string s,lv,.int .i64 e]] w fun r w'=>∃ v',r= .returned (.agg #[.int .i64 k,.int .u64 m,.string s,v',.int .i64 e])∧LentAt w' N w.heap.size w'.heap.size v' l∧Below w.heap.size w w':=by
 have HC:Hid (∀ w',Below w.heap.size w w'→Calls Tryz.prog 42 #[lv] w' fun r w''=>∃ v',r= .returned v'∧LentAt w'' N w'.heap.size w''.heap.size v' l∧Below w'.heap.size w' w''):=fun w' h=>hS B lv l w' (hl.below (h.mono hB)) hs (Nat.le_trans hB h.size)
 clear hl hs
 have HBX:=Lib.hid (lent_box w (.int .i64 k) (.int .u64 m) (.string s) lv (.int .i64 e) (.int .i64 0) (.int .u64 0) (.string ⟨#[]⟩) (.slice none 0 0) (.int .i64 0) 25)
 go_enter Tryz.func15,Tryz.ntmps15
 go_wp2_with (fail)
 have hbW:=Lib.hid ((below_boxes2 w (.cells #[.int .i64 k,.int .u64 m,.string s,lv,.int .i64 e] 25) (.cells #[.int .i64 0,.int .u64 0,.string ⟨#[]⟩,.slice none 0 0,.int .i64 0] 25)))
 have hzW:Hid (((w.alloc (.cells #[.int .i64 k,.int .u64 m,.string s,lv,.int .i64 e] 25)).alloc (.cells #[.int .i64 0,.int .u64 0,.string ⟨#[]⟩,.slice none 0 0,.int .i64 0] 25)).heap.size=w.heap.size+2):=by show _=_;rw [lsize_alloc,lsize_alloc]
 obtain ⟨W1,hW1⟩:∃ W1,(w.alloc (.cells #[.int .i64 k,.int .u64 m,.string s,lv,.int .i64 e] 25)).alloc (.cells #[.int .i64 0,.int .u64 0,.string ⟨#[]⟩,.slice none 0 0,.int .i64 0] 25)=W1:=⟨_,rfl⟩
 rw [hW1] at HBX hbW hzW ⊢
 clear hW1
 refine (HC.out W1 hbW.out).mono ?_
 rintro r w2 ⟨v',rfl,hL,hb2⟩
 obtain ⟨b',hv'⟩:=hL.form
 subst hv'
 have HL2:=Lib.hid hL
 have b2:Hid (Below (w.heap.size+2) W1 w2):=hb2.mono (Nat.le_of_eq hzW.out.symm)
 have s2:Hid (w.heap.size+2≤w2.heap.size):=Nat.le_trans (Nat.le_of_eq hzW.out.symm) hb2.size
 clear hL hb2
 obtain ⟨⟨a0,a1,a2,a3,a4,af⟩,⟨z0,z1,z2,z3,z4⟩,⟨f0,f1,f2,f3,f4⟩,hg⟩:=HBX.out w2 b2.out
 have HG:=Lib.hid hg
 clear hg
 go_wp2
 obtain ⟨v',hv'⟩:∃ v',Value.slice (some ⟨b',0,none⟩) l.length (l.length+3)=v':=⟨_,rfl⟩
 have hL3:=HL2.out
 rw [hv'] at hL3 ⊢
 have hh:Hid ((w2.setCell ⟨w.heap.size,3,none⟩ v').heap[w.heap.size+1]? =some (.cells #[.int .i64 0,.int .u64 0,.string ⟨#[]⟩,.slice none 0 0,.int .i64 0] 25 (0,0))):=(Below.heap_setCell _ _ _ _ (by simp)).trans HG.out
 have HW:=Lib.hid (heap5 (v0:= .int .i64 k) (v1:= .int .u64 m) (v2:= .string s) (v3:=v') (v4:= .int .i64 e) hh.out)
 refine bodyPost_ret_by (results_cell_row rfl _ _ (w.heap.size+1) _ _ _ _ rfl HW.out Tryz.underlying25 rfl (by kernel_rfl)) rfl ⟨v',rfl,?_,?_⟩
 ·have ha:Apart w.heap.size (w.heap.size+2) w2 (set5 (w2.setCell ⟨w.heap.size,3,none⟩ v') (w.heap.size+1) 0 (.int .i64 k) (.int .u64 m) (.string s) v' (.int .i64 e)):=
   ((Apart.refl w.heap.size (w.heap.size+2) w2).setCell (p:=⟨w.heap.size,3,none⟩) (Nat.le_refl _) (Nat.lt_add_of_pos_right (by decide)) v').trans ((set5_apart _ _ _ _ _ _ _ _).wide (by omega) (by omega))
  have:=hL3.apart ha (Nat.le_refl _) (.inr (Nat.le_of_eq hzW.out.symm))
  have hz:(set5 (w2.setCell ⟨w.heap.size,3,none⟩ v') (w.heap.size+1) 0 (.int .i64 k) (.int .u64 m) (.string s) v' (.int .i64 e)).heap.size=w2.heap.size:=by rw [set5_size];simp [World.setCell]
  rw [←hz] at this
  exact this.lo (Nat.le_trans (Nat.le_add_right _ 2) (Nat.le_of_eq hzW.out.symm))
 ·exact set5_below ((hbW.out.trans (b2.out.mono (by omega))).setCell (p:=⟨w.heap.size,3,none⟩) (Nat.le_refl _) v') (by omega)
noncomputable def infoLV:TypeInfo:=match Tryz.prog.info? 25 with|some i=>i|none=>default
theorem info_lv:Tryz.prog.info? 25=some infoLV:=by kernel_rfl
theorem infoLV_zero:infoLV.zero=some (.agg #[.int .i64 0,.int .u64 0,.string ⟨#[]⟩,.slice none 0 0,.int .i64 0]):=by kernel_rfl
theorem infoLV_size:infoLV.size=5:=by kernel_rfl
theorem infoLV_bytes:infoLV.bytes=64:=by kernel_rfl
theorem make_values (w:World) (n:Nat) (hn:n≤100000):∃ C:Array Value,C.size=(n+3)*5∧(Instr.makeSlice 23 (.int .i64 (n+3)) (.int .i64 (n+3))).run Tryz.prog w= .ok (.slice (some ⟨w.heap.size,0,none⟩) (n+3) (n+3)) (w.alloc (.cells C 25)):=by
 have:=run_make (P:=Tryz.prog) w 23 25 infoLV _ Tryz.underlying23 info_lv infoLV_zero .i64 .i64 (n+3) (n+3) (by omega) (Int.le_refl _) (by rw [infoLV_bytes];omega) (by omega)
 rw [infoLV_size] at this
 have e:(((n:Int)+3).toNat)=n+3:=by omega
 rw [e] at this
 exact ⟨_,size_madeCells _ _,this⟩
theorem lents:∀ N,LentS N:=by
 intro N
 induction N with
 |zero=>intro B lv l w h;exact h.elim
 |succ N ih=>
  intro B lv l w hl hs hB
  have HS:=Lib.hid ih
  have HL:=Lib.hid hl
  have HSM:=Lib.hid hs
  obtain ⟨p,c,rfl⟩:=hl.slice
  have hlen:=hs.len
  clear hl hs ih
  obtain ⟨n,hn⟩:∃ n,l.length=n:=⟨_,rfl⟩
  have Hn:=Lib.hid hn
  rw [hn] at hlen ⊢
  clear hn
  obtain ⟨C,hC,hmk⟩:=make_values w n hlen
  have hw3:IntKind.i64.wrap ((n:Int)+3)=n+3:=by rw [IntKind.wrap_i64];omega
  have HR0:Hid (LRel w (w.alloc (.cells C 25)) N 0 l):=LRel.start (by rw [Hn.out];exact hC)
  clear hC
  go_enter Tryz.func42,Tryz.ntmps42
  go_wp2
  clear hmk
  go_loopw [5] (fun i wr=>∃ (j:Nat),i= .int .i64 j∧j≤n+3∧Hid (LRel w wr N j l)) (fun i _=>n+3-(intOf i).toNat)
  case atStart=>exact ⟨0,rfl,Nat.zero_le _,HR0⟩
  case round=>
   obtain ⟨j,rfl,hj,HR⟩:=hrel
   have h3:=hlen
   by_cases hlt:j<n+3
   ·obtain ⟨v0,v1,v2,v3,v4,e0,e1,e2,e3,e4⟩:=HR.out.has.at5 (o:=j*5) (by rw [Hn.out];omega)
    have q0:=HR.out.froz (j*5)
    have q1:=HR.out.froz (j*5+1)
    have q2:=HR.out.froz (j*5+2)
    have q3:=HR.out.froz (j*5+3)
    have q4:=HR.out.froz (j*5+4)
    have hlt3:(j:Int)<(n:Int)+3:=by omega
    by_cases hjn:j<n
    ·rcases HL.out with ⟨h0,_⟩|⟨b0,off,c',hp,hbB,_,hel⟩
     ·rw [←Hn.out,h0] at hjn;exact absurd hjn (by simp)
     rw [Hn.out] at hp
     cases hp
     obtain ⟨t,ht⟩:∃ t,l[j]? =some t:=⟨_,List.getElem?_eq_getElem (by rw [Hn.out];exact hjn)⟩
     obtain ⟨hf,lv,hat,hlv⟩:=hel j t ht
     obtain ⟨g0,g1,g2,g3,g4⟩:=hat.below (HR.out.below.mono hB) hbB
     have hne:b0≠w.heap.size:=by omega
     have hne':w.heap.size≠b0:=by omega
     have hjn':(j:Int)<(n:Int):=by omega
     have HT:=Lib.hid ht
     have HF:=Lib.hid hf
     have hsm:=HSM.out.child ht
     have HC:Hid (∀ w',Below w.heap.size w w'→Calls Tryz.prog 15 #[.agg #[.int .i64 t.kind,.int .u64 t.num,.string t.text,lv,.int .i64 t.elem]] w' fun r w''=>∃ b',r= .returned (.agg #[.int .i64 t.kind,.int .u64 t.num,.string t.text,.slice (some ⟨b',0,none⟩) t.list.length (t.list.length+3),.int .i64 t.elem])∧LentAt w'' N w'.heap.size w''.heap.size (.slice (some ⟨b',0,none⟩) t.list.length (t.list.length+3)) t.list∧Below w'.heap.size w' w''):=fun w' hb'=>
      (lent_of HS.out B t.kind t.num t.text t.elem t.list lv w' (hlv.below (hb'.mono hB)) hsm (Nat.le_trans hB hb'.size)).mono fun r w'' ⟨v',h1,h2,h3⟩=>by
        obtain ⟨b',hb''⟩:=h2.form
        subst hb''
        exact ⟨b',h1,h2,h3⟩
     clear hel hat hlv ht hf hsm
     go_wp2_with (fail)
     generalize hW5:World.setCell _ _ _=W5
     have HW5:Hid (set5 wr w.heap.size (j*5) (.int .i64 (-7)) (.int .u64 j) (.string ⟨#[]⟩) (.slice none 0 0) (.int .i64 0)=W5):=hW5
     clear hW5
     refine (HC.out W5 (by rw [←HW5.out];exact set5_below HR.out.below (Nat.le_refl _))).mono ?_
     rintro r w2 ⟨b',rfl,hL,hb2⟩
     have HL2:=Lib.hid hL
     have HB2:=Lib.hid hb2
     have hlt5:w.heap.size<W5.heap.size:=by rw [←HW5.out,set5_size];exact HR.out.lt
     have HS5:Has W5 w.heap.size ((l.length+3)*5):=by rw [←HW5.out];exact HR.out.has.set5 (by rw [Hn.out];omega)
     have fz:∀ o,w2.frozen? ⟨w.heap.size,o,none⟩=false:=fun o=>(hb2.frozen (p:=⟨_,o,none⟩) hlt5).trans (by rw [←HW5.out,set5_frozen];exact HR.out.froz o)
     obtain ⟨u0,u1,u2,u3,u4,x0,x1,x2,x3,x4⟩:=(HS5.below hb2 hlt5).at5 (o:=j*5) (by rw [Hn.out];omega)
     have y0:=fz (j*5)
     have y1:=fz (j*5+1)
     have y2:=fz (j*5+2)
     have y3:=fz (j*5+3)
     have y4:=fz (j*5+4)
     clear hL hb2 HS5 fz e0 e1 e2 e3 e4 q0 q1 q2 q3 q4 g0 g1 g2 g3 g4 hlt5
     go_wp2
     go_roundw
     case rel=>exact ⟨j+1,by go_num,by omega,HR.out.part HT.out HF.out _ _ _ _ _ (by rw [HW5.out];exact HB2.out) (by rw [HW5.out];exact HL2.out)⟩
     case measure=>simp [intOf];omega
    ·have hjn':¬((j:Int)<(n:Int)):=by omega
     go_wp2
     go_roundw
     case rel=>exact ⟨j+1,by go_num,by omega,HR.out.mark (by rw [Hn.out];omega) (by rw [Hn.out];omega)⟩
     case measure=>simp [intOf];omega
   ·obtain rfl:j=n+3:=by omega
    go_wp2
    go_ret
    have:=HR.out
    rw [←Hn.out] at this
    refine ⟨_,rfl,?_,this.below⟩
    rw [←Hn.out]
    exact this.done (by rw [Hn.out];exact hlen)
end Go.Proofs.YtfjlnfogbfmpiaaGreatDoor.Va
namespace Go.Proofs.YtfjlnfogbfmpiaaGreatDoor.Va
open Go Go.RowKit Nu
attribute [local go_sem ↓] Go.wp_at_zero Go.wp_at_succ
def KeptS (N:Nat):Prop:=∀ (B lo hi:Nat) (v lv:Value) (l:List VT) (w:World),LentAt w N lo hi v l→LAt B w N lv l→B≤lo→hi≤w.heap.size→
    Calls Tryz.prog 49 #[v,lv] w fun r w'=>r= .returned (.bool true)∧Apart lo hi w w'
theorem kept_of {N:Nat} (hS:KeptS N) (B lo hi:Nat) (k m:Int) (s:ByteArray) (e:Int) (l:List VT) (v lv:Value) (w:World) (hl:LentAt w N lo hi v l) (ho:LAt B w N lv l) (hB:B≤lo) (hhi:hi≤w.heap.size):
 Calls Tryz.prog 25 #[.agg #[.int .i64 k,.int .u64 m,.string s,v,.int .i64 e],.agg #[.int .i64 k,.int .u64 m,.string s,lv,.int .i64 e]] w fun r w'=>r= .returned (.bool true)∧Apart lo hi w w':=by
 have hle:=hl.le
 have HC:Hid (∀ w',Below w.heap.size w w'→Calls Tryz.prog 49 #[v,lv] w' fun r w''=>r= .returned (.bool true)∧Apart lo hi w' w''):=fun w' h=>hS B lo hi v lv l w' (hl.below hhi h) (ho.below (h.mono (by omega))) hB (Nat.le_trans hhi h.size)
 obtain ⟨b',hv'⟩:=hl.form
 obtain ⟨p',c',hlv'⟩:=ho.slice
 subst hv' hlv'
 clear hl ho
 go_enter Tryz.func25,Tryz.ntmps25
 go_wp2_with (fail)
 refine (HC.out _ (below_boxes2 w _ _)).mono ?_
 rintro r w2 ⟨rfl,ha⟩
 have HA:=Lib.hid ((Apart.of_below (lo:=lo) (hi:=hi) (below_boxes2 w _ _) (Nat.le_refl _)).trans ha)
 clear ha
 go_wp2
 go_ret
 exact ⟨rfl,HA.out⟩
theorem kepts:∀ N,KeptS N:=by
 intro N
 induction N with
 |zero=>intro B lo hi v lv l w h;exact h.elim
 |succ N ih=>
  intro B lo hi v lv l w hl ho hB hhi
  have HS:=Lib.hid ih
  have HL:=Lib.hid ho
  obtain ⟨p,c,rfl⟩:=ho.slice
  obtain ⟨b,rfl,hlo,hbh,hlen,hA⟩:=lentAt_open hl
  have HA0:=Lib.hid hA
  clear hl ho ih hA
  obtain ⟨n,hn⟩:∃ n,l.length=n:=⟨_,rfl⟩
  have Hn:=Lib.hid hn
  rw [hn] at hlen ⊢
  clear hn
  have hw3:IntKind.i64.wrap ((n:Int)+3)=n+3:=by rw [IntKind.wrap_i64];omega
  go_enter Tryz.func49,Tryz.ntmps49
  go_wp2
  go_loopw [7,8,9] (fun g i x wr=>∃ (j:Nat),g= .bool true∧i= .int .i64 j∧j≤n+3∧Hid (ARel w wr N b lo hi j l)) (fun _ i _ _=>n+3-(intOf i).toNat)
  case atStart=>exact ⟨0,rfl,rfl,Nat.zero_le _,HA0⟩
  case round=>
   obtain ⟨j,rfl,rfl,hj,HR⟩:=hrel
   by_cases hlt:j<n+3
   ·have hlt3:(j:Int)<(n:Int)+3:=by omega
    have q0:=HR.out.froz (j*5)
    have q1:=HR.out.froz (j*5+1)
    have q2:=HR.out.froz (j*5+2)
    have q3:=HR.out.froz (j*5+3)
    have q4:=HR.out.froz (j*5+4)
    by_cases hjn:j<n
    ·obtain ⟨t,ht⟩:∃ t,l[j]? =some t:=⟨_,List.getElem?_eq_getElem (by rw [Hn.out];exact hjn)⟩
     obtain ⟨x,y,lv',hbx,hy,hf,ha,hlent,hstep⟩:=HR.out.head ht hlo hhi
     rcases HL.out with ⟨h0,_⟩|⟨b0,off,c',hp,hbB,_,hel⟩
     ·rw [←Hn.out,h0] at hjn;exact absurd hjn (by simp)
     rw [Hn.out] at hp
     cases hp
     obtain ⟨_,lv0,hat0,hlv0⟩:=hel j t ht
     have hbw:Below B w wr:=HR.out.apart.below hB (by omega)
     obtain ⟨g0,g1,g2,g3,g4⟩:=hat0.below hbw hbB
     obtain ⟨e0,e1,e2,e3,e4⟩:=ha
     have hle:=hlent.le
     have hsz:=HR.out.apart.size
     have hjn':(j:Int)<(n:Int):=by omega
     have hne:b0≠b:=by omega
     have hne':b≠b0:=by omega
     have HC:Hid (∀ w',Below wr.heap.size wr w'→Calls Tryz.prog 25 #[.agg #[.int .i64 t.kind,.int .u64 t.num,.string t.text,lv',.int .i64 t.elem],.agg #[.int .i64 t.kind,.int .u64 t.num,.string t.text,lv0,.int .i64 t.elem]] w' fun r w''=>r= .returned (.bool true)∧Apart x y w' w''):=fun w' hb'=>
      kept_of HS.out B x y t.kind t.num t.text t.elem t.list lv' lv0 w' (hlent.below (by omega) hb') ((hlv0.below hbw).below (hb'.mono (by omega))) (by omega) (by have:=hb'.size;omega)
     have HST:=Lib.hid hstep
     clear hel hat0 hlv0 hbw ht hstep hlent hle
     have HALL:Hid (∀ w',Apart x y wr w'→(Apart x y wr w'∧w'.cell? ⟨b,j*5,none⟩=some (.int .i64 t.kind)∧w'.cell? ⟨b,j*5+1,none⟩=some (.int .u64 t.num)∧w'.cell? ⟨b,j*5+2,none⟩=some (.string t.text)∧w'.cell? ⟨b,j*5+3,none⟩=some lv'∧w'.cell? ⟨b,j*5+4,none⟩=some (.int .i64 t.elem)∧
      w'.cell? ⟨b0,off+j*5,none⟩=some (.int .i64 t.kind)∧w'.cell? ⟨b0,off+j*5+1,none⟩=some (.int .u64 t.num)∧w'.cell? ⟨b0,off+j*5+2,none⟩=some (.string t.text)∧w'.cell? ⟨b0,off+j*5+3,none⟩=some lv0∧w'.cell? ⟨b0,off+j*5+4,none⟩=some (.int .i64 t.elem))):=fun w' h=>
      have k:∀ o,w'.cell? ⟨b,o,none⟩=wr.cell? ⟨b,o,none⟩:=fun o=>h.cell (p:=⟨b,o,none⟩) (by show b<wr.heap.size;omega) (.inl hbx)
      have k0:∀ o,w'.cell? ⟨b0,o,none⟩=wr.cell? ⟨b0,o,none⟩:=fun o=>h.cell (p:=⟨b0,o,none⟩) (by show b0<wr.heap.size;omega) (.inl (by show b0<x;omega))
      ⟨h,(k _).trans e0,(k _).trans e1,(k _).trans e2,(k _).trans e3,(k _).trans e4,(k0 _).trans g0,(k0 _).trans g1,(k0 _).trans g2,(k0 _).trans g3,(k0 _).trans g4⟩
     obtain ⟨kk,hkk⟩:∃ kk,t.kind=kk:=⟨_,rfl⟩
     rw [hkk] at e0 g0 HC HALL
     clear hkk
     by_cases hk:kk= -7
     ·subst hk
      go_wp2
      go_region_held3 (fun w'=>Apart x y wr w'∧w'.cell? ⟨b,j*5,none⟩=some (.int .i64 (-7))∧w'.cell? ⟨b,j*5+1,none⟩=some (.int .u64 t.num)∧w'.cell? ⟨b,j*5+2,none⟩=some (.string t.text)∧w'.cell? ⟨b,j*5+3,none⟩=some lv'∧w'.cell? ⟨b,j*5+4,none⟩=some (.int .i64 t.elem)∧
       w'.cell? ⟨b0,off+j*5,none⟩=some (.int .i64 (-7))∧w'.cell? ⟨b0,off+j*5+1,none⟩=some (.int .u64 t.num)∧w'.cell? ⟨b0,off+j*5+2,none⟩=some (.string t.text)∧w'.cell? ⟨b0,off+j*5+3,none⟩=some lv0∧w'.cell? ⟨b0,off+j*5+4,none⟩=some (.int .i64 t.elem))
       (first
         |with_reducible exact HALL.out _ ((Apart.refl _ _ _).drew.trans hb2.out)
         |with_reducible exact HALL.out _ (Apart.refl _ _ _).drew)
       ((go_at_call 25;refine (HC.out _ (Below.refl _ _).drew).mono ?_;rintro r w2 ⟨rfl,hb2'⟩;have hb2:=Lib.hid hb2';clear hb2'))
      have hb3:=Lib.hid ((Apart.refl x y wr).drew.trans hb2.out)
      have fz:∀ o,w2.frozen? ⟨b,o,none⟩=false:=fun o=>(hb3.out.frozen (p:=⟨b,o,none⟩) (by show b<wr.heap.size;omega) (.inl hbx)).trans (HR.out.froz o)
      have y0:=fz (j*5)
      have y1:=fz (j*5+1)
      have y2:=fz (j*5+2)
      have y3:=fz (j*5+3)
      have y4:=fz (j*5+4)
      obtain ⟨_,x0,x1,x2,x3,x4,_⟩:=HALL.out w2 hb3.out
      clear fz HALL HC e0 e1 e2 e3 e4 g0 g1 g2 g3 g4 q0 q1 q2 q3 q4
      go_wp2
      go_roundw
      case rel=>exact ⟨j+1,rfl,by go_num,by omega,HST.out w2 hb3.out _ _ _ _ _⟩
      case measure=>simp [intOf];omega
     ·go_wp2
      go_region_held3 (fun w'=>Apart x y wr w'∧w'.cell? ⟨b,j*5,none⟩=some (.int .i64 kk)∧w'.cell? ⟨b,j*5+1,none⟩=some (.int .u64 t.num)∧w'.cell? ⟨b,j*5+2,none⟩=some (.string t.text)∧w'.cell? ⟨b,j*5+3,none⟩=some lv'∧w'.cell? ⟨b,j*5+4,none⟩=some (.int .i64 t.elem)∧
       w'.cell? ⟨b0,off+j*5,none⟩=some (.int .i64 kk)∧w'.cell? ⟨b0,off+j*5+1,none⟩=some (.int .u64 t.num)∧w'.cell? ⟨b0,off+j*5+2,none⟩=some (.string t.text)∧w'.cell? ⟨b0,off+j*5+3,none⟩=some lv0∧w'.cell? ⟨b0,off+j*5+4,none⟩=some (.int .i64 t.elem))
       (first
         |with_reducible exact HALL.out _ ((Apart.refl _ _ _).drew.trans hb2.out)
         |with_reducible exact HALL.out _ (Apart.refl _ _ _).drew)
       ((go_at_call 25;refine (HC.out _ (Below.refl _ _).drew).mono ?_;rintro r w2 ⟨rfl,hb2'⟩;have hb2:=Lib.hid hb2';clear hb2'))
      have hb3:=Lib.hid ((Apart.refl x y wr).drew.trans hb2.out)
      have fz:∀ o,w2.frozen? ⟨b,o,none⟩=false:=fun o=>(hb3.out.frozen (p:=⟨b,o,none⟩) (by show b<wr.heap.size;omega) (.inl hbx)).trans (HR.out.froz o)
      have y0:=fz (j*5)
      have y1:=fz (j*5+1)
      have y2:=fz (j*5+2)
      have y3:=fz (j*5+3)
      have y4:=fz (j*5+4)
      obtain ⟨_,x0,x1,x2,x3,x4,_⟩:=HALL.out w2 hb3.out
      clear fz HALL HC e0 e1 e2 e3 e4 g0 g1 g2 g3 g4 q0 q1 q2 q3 q4
      go_wp2
      go_roundw
      case rel=>exact ⟨j+1,rfl,by go_num,by omega,HST.out w2 hb3.out _ _ _ _ _⟩
      case measure=>simp [intOf];omega
    ·have hjn':¬((j:Int)<(n:Int)):=by omega
     have hmk:=HR.out.marks j (by rw [Hn.out];omega) (by rw [Hn.out];exact hlt) (Nat.le_refl _)
     have e0:wr.cell? ⟨b,j*5,none⟩=some (.int .i64 (-7)):=hmk.kind
     have e1:wr.cell? ⟨b,j*5+1,none⟩=some (.int .u64 j):=hmk.num
     have e2:wr.cell? ⟨b,j*5+2,none⟩=some (.string ⟨#[]⟩):=hmk.text
     have e3:wr.cell? ⟨b,j*5+3,none⟩=some (.slice none 0 0):=hmk.list
     have e4:wr.cell? ⟨b,j*5+4,none⟩=some (.int .i64 0):=hmk.elem
     clear hmk
     go_wp2
     go_roundw
     case rel=>exact ⟨j+1,rfl,by go_num,by omega,HR.out.mark (by rw [Hn.out];omega) (by rw [Hn.out];exact hlt) hlo hbh hhi _ _ _ _ _⟩
     case measure=>simp [intOf];omega
   ·obtain rfl:j=n+3:=by omega
    go_wp2
    go_ret
    exact ⟨rfl,HR.out.apart⟩
theorem len_of_bne {a b:Nat} (h:((a:Int)!=(b:Int))=false):a=b:=by simp at h;omega
theorem equal_raw:∀ (N B:Nat) (k m:Int) (s:ByteArray) (e:Int) (l:List VT) (lv:Value) (k' m':Int) (s':ByteArray) (e':Int) (l':List VT) (lv':Value) (w:World),LAt B w N lv l→LAt B w N lv' l'→B≤w.heap.size→
 Calls Tryz.prog 28 #[.agg #[.int .i64 k,.int .u64 m,.string s,lv,.int .i64 e],.agg #[.int .i64 k',.int .u64 m',.string s',lv',.int .i64 e']] w fun r w'=>r= .returned (.bool (eqT (.mk k m s e l) (.mk k' m' s' e' l')))∧Below w.heap.size w w':=by
 intro N
 induction N with
 |zero=>intro B k m s e l lv k' m' s' e' l' lv' w h;exact h.elim
 |succ N ih=>
  intro B k m s e l lv k' m' s' e' l' lv' w hl hl' hB
  have HL:=Lib.hid hl
  have HL':=Lib.hid hl'
  obtain ⟨p,c,rfl⟩:=hl.slice
  obtain ⟨p',c',rfl⟩:=hl'.slice
  have hlen:l.length≤9223372036854775807:=hl.len
  have hlen':l'.length≤9223372036854775807:=hl'.len
  clear hl hl'
  by_cases hhd:headT (.mk k m s e l) (.mk k' m' s' e' l')
  ·have HE:=Lib.hid (eqT_head hhd)
   obtain ⟨rfl,rfl,rfl,rfl,hll⟩:=hhd
   have hll:l.length=l'.length:=hll
   simp only [VT.kind,VT.num,VT.text,VT.elem,VT.list] at HE ⊢
   obtain ⟨R,hR⟩:∃ R,eqT (.mk k m s e l) (.mk k m s e l')=R:=⟨_,rfl⟩
   rw [hR] at HE ⊢
   clear hR
   obtain ⟨n,hn⟩:∃ n,l.length=n:=⟨_,rfl⟩
   have hn':l'.length=n:=by omega
   have Hn:=Lib.hid hn
   have Hn':=Lib.hid hn'
   rw [hn] at hlen HL ⊢
   rw [hn'] at HL' ⊢
   clear hll hlen' hn hn'
   go_enter Tryz.func28,Tryz.ntmps28
   go_wp2
   obtain ⟨W1,hW1⟩:∃ W1,(w.alloc (.cells #[.int .i64 k,.int .u64 m,.string s,.slice p n c,.int .i64 e] 25)).alloc (.cells #[.int .i64 k,.int .u64 m,.string s,.slice p' n c',.int .i64 e] 25)=W1:=⟨_,rfl⟩
   have hz1:W1.heap.size=w.heap.size+2:=by rw [←hW1];simp
   have hc1:W1.cell? ⟨w.heap.size,3,none⟩=some (.slice p n c):=by rw [←hW1];simp
   have hc2:W1.cell? ⟨w.heap.size+1,3,none⟩=some (.slice p' n c'):=by rw [←hW1];simp
   have hb1:Below w.heap.size w W1:=by rw [←hW1];exact ((Below.refl _ _).alloc (Nat.le_refl _) _).alloc (by simp) _
   rw [hW1]
   clear hW1
   go_loopw [5] (fun i wr=>∃ (j:Nat),i= .int .i64 j∧j≤n∧Hid (eqTs (l.drop j) (l'.drop j)=R)∧Below (w.heap.size+2) W1 wr) (fun i _=>n-(intOf i).toNat)
   case atStart=>exact ⟨0,rfl,Nat.zero_le _,HE.out.symm,Below.refl _ _⟩
   case round=>
    obtain ⟨j,rfl,hj,HQ,hb⟩:=hrel
    have d1:wr.cell? ⟨w.heap.size,3,none⟩=some (.slice p n c):=(hb.cell (p:=⟨w.heap.size,3,none⟩) (by simp)).trans hc1
    have d2:wr.cell? ⟨w.heap.size+1,3,none⟩=some (.slice p' n c'):=(hb.cell (p:=⟨w.heap.size+1,3,none⟩) (by simp)).trans hc2
    have hbw:Below w.heap.size w wr:=hb1.trans (hb.mono (by omega))
    by_cases hlt:j<n
    ·rcases HL.out with ⟨h0,_⟩|⟨b,off,c0,hp,hbB,_,hel⟩
     ·rw [←Hn.out,h0] at hlt;exact absurd hlt (by simp)
     rcases HL'.out with ⟨h0,_⟩|⟨b',off',c0',hp',hbB',_,hel'⟩
     ·rw [←Hn'.out,h0] at hlt;exact absurd hlt (by simp)
     rw [Hn.out] at hp
     rw [Hn'.out] at hp'
     cases hp
     cases hp'
     obtain ⟨t,ht⟩:∃ t,l[j]? =some t:=⟨_,List.getElem?_eq_getElem (by rw [Hn.out];exact hlt)⟩
     obtain ⟨t',ht'⟩:∃ t,l'[j]? =some t:=⟨_,List.getElem?_eq_getElem (by rw [Hn'.out];exact hlt)⟩
     obtain ⟨hf,lv,hat,hl⟩:=hel j t ht
     obtain ⟨hf',lv',hat',hl'⟩:=hel' j t' ht'
     obtain ⟨e0,e1,e2,e3,e4⟩:=hat.below (hbw.mono hB) hbB
     obtain ⟨f0,f1,f2,f3,f4⟩:=hat'.below (hbw.mono hB) hbB'
     have hlH:=Lib.hid (hl.below (hbw.mono hB))
     have hlH':=Lib.hid (hl'.below (hbw.mono hB))
     have hzw:w.heap.size+2≤wr.heap.size:=by have:=hb.size;omega
     have hst:=Lib.hid (eqTs_step ht ht')
     have hi0:(0:Int)≤(j:Int):=by omega
     have hi1:(j:Int)<(n:Int):=by omega
     have hb0:b<w.heap.size:=by omega
     have hb0':b'<w.heap.size:=by omega
     clear hel hl hat hel' hl' hat' ht ht'
     have HALL:Hid (∀ w',Below wr.heap.size wr w'→(Below wr.heap.size wr w'∧w'.cell? ⟨w.heap.size,3,none⟩=some (.slice (some ⟨b,off,none⟩) n c)∧w'.cell? ⟨w.heap.size+1,3,none⟩=some (.slice (some ⟨b',off',none⟩) n c')∧
      w'.cell? ⟨b,off+j*5,none⟩=some (.int .i64 t.kind)∧w'.cell? ⟨b,off+j*5+1,none⟩=some (.int .u64 t.num)∧w'.cell? ⟨b,off+j*5+2,none⟩=some (.string t.text)∧w'.cell? ⟨b,off+j*5+3,none⟩=some lv∧w'.cell? ⟨b,off+j*5+4,none⟩=some (.int .i64 t.elem)∧
      w'.cell? ⟨b',off'+j*5,none⟩=some (.int .i64 t'.kind)∧w'.cell? ⟨b',off'+j*5+1,none⟩=some (.int .u64 t'.num)∧w'.cell? ⟨b',off'+j*5+2,none⟩=some (.string t'.text)∧w'.cell? ⟨b',off'+j*5+3,none⟩=some lv'∧w'.cell? ⟨b',off'+j*5+4,none⟩=some (.int .i64 t'.elem))):=fun w' h=>
      have k:∀ b o,b<wr.heap.size→w'.cell? ⟨b,o,none⟩=wr.cell? ⟨b,o,none⟩:=fun b o hb=>h.cell (p:=⟨b,o,none⟩) hb
      ⟨h,(k _ _ (by omega)).trans d1,(k _ _ (by omega)).trans d2,(k _ _ (by omega)).trans e0,(k _ _ (by omega)).trans e1,(k _ _ (by omega)).trans e2,(k _ _ (by omega)).trans e3,(k _ _ (by omega)).trans e4,(k _ _ (by omega)).trans f0,(k _ _ (by omega)).trans f1,(k _ _ (by omega)).trans f2,(k _ _ (by omega)).trans f3,(k _ _ (by omega)).trans f4⟩
     obtain ⟨X,hX⟩:∃ X,eqT t t'=X:=⟨_,rfl⟩
     rw [hX] at hst
     have HX:=Lib.hid hX
     clear hX
     go_wp2
     go_region_held3 (fun w'=>Below wr.heap.size wr w'∧w'.cell? ⟨w.heap.size,3,none⟩=some (.slice (some ⟨b,off,none⟩) n c)∧w'.cell? ⟨w.heap.size+1,3,none⟩=some (.slice (some ⟨b',off',none⟩) n c')∧
      w'.cell? ⟨b,off+j*5,none⟩=some (.int .i64 t.kind)∧w'.cell? ⟨b,off+j*5+1,none⟩=some (.int .u64 t.num)∧w'.cell? ⟨b,off+j*5+2,none⟩=some (.string t.text)∧w'.cell? ⟨b,off+j*5+3,none⟩=some lv∧w'.cell? ⟨b,off+j*5+4,none⟩=some (.int .i64 t.elem)∧
      w'.cell? ⟨b',off'+j*5,none⟩=some (.int .i64 t'.kind)∧w'.cell? ⟨b',off'+j*5+1,none⟩=some (.int .u64 t'.num)∧w'.cell? ⟨b',off'+j*5+2,none⟩=some (.string t'.text)∧w'.cell? ⟨b',off'+j*5+3,none⟩=some lv'∧w'.cell? ⟨b',off'+j*5+4,none⟩=some (.int .i64 t'.elem))
      (first
        |exact HALL.out _ (Below.refl _ _)
        |exact HALL.out _ (Below.refl _ _).drew
        |exact HALL.out _ (((Below.refl _ _).drew).trans hb2)
        |assumption)
      ((go_at_call 28;refine (ih B t.kind t.num t.text t.elem t.list lv t'.kind t'.num t'.text t'.elem t'.list lv' wr.drew (hlH.out.below (Below.refl _ _).drew) (hlH'.out.below (Below.refl _ _).drew) (by show B≤wr.heap.size;omega)).mono ?_;rintro r w2 ⟨hr,hb2⟩;rw [VT.eta,VT.eta,HX.out] at hr;subst hr;replace hb2:Below wr.heap.size wr.drew w2:=hb2))
     have hb3:Below (w.heap.size+2) W1 w2:=hb.trans (((Below.refl _ _).drew.trans hb2).mono hzw)
     clear HALL
     cases X with
     |false=>
      go_wp2
      go_ret
      refine ⟨ret_bool ?_,hb1.trans (hb3.mono (by omega))⟩
      rw [←HQ.out,hst.out,Bool.false_and]
     |true=>
      go_wp2
      go_roundw
      case rel=>exact ⟨j+1,by go_num,by omega,by rw [←HQ.out,hst.out,Bool.true_and];exact rfl,hb3⟩
      case measure=>simp [intOf];omega
    ·obtain rfl:j=n:=by omega
     go_wp2
     go_ret
     exact ⟨ret_bool (by rw [←HQ.out,←Hn.out,eqTs_end (by rw [Hn.out,Hn'.out])]),hbw⟩
  ·have HE:=Lib.hid (eqT_not hhd)
   obtain ⟨R,hR⟩:∃ R,eqT (.mk k m s e l) (.mk k' m' s' e' l')=R:=⟨_,rfl⟩
   rw [hR] at HE ⊢
   clear hR
   have Hhd:=Lib.hid hhd
   clear hhd
   go_enter Tryz.func28,Tryz.ntmps28
   go_wp2
   all_goals first
    |(go_ret;exact ⟨ret_bool HE.out.symm,((Below.refl _ _).alloc (Nat.le_refl _) _).alloc (by simp) _⟩)
    |(exfalso;apply Hhd.out;exact ⟨by assumption,by assumption,toList_inj (by assumption),by assumption,len_of_bne (by assumption)⟩)
theorem equal_any {N B:Nat} {t t':VT} {v v':Value} {w:World} (h:VAt B w N v t) (h':VAt B w N v' t') (hB:B≤w.heap.size):
 Calls Tryz.prog 28 #[v,v'] w fun r w'=>r= .returned (.bool (eqT t t'))∧Below w.heap.size w w':=by
 obtain ⟨_,lv,rfl,hl⟩:=h
 obtain ⟨_,lv',rfl,hl'⟩:=h'
 have:=equal_raw N B t.kind t.num t.text t.elem t.list lv t'.kind t'.num t'.text t'.elem t'.list lv' w hl hl' hB
 rwa [VT.eta,VT.eta] at this
end Go.Proofs.YtfjlnfogbfmpiaaGreatDoor.Va
namespace Go.Proofs
open Go.Shelf
def Tryz.dec197_ren:Go.Shelf.Ren:=⟨fun|197=>164|260=>205|n=>n,fun|9=>9|21=>21|3=>3|4=>4|5=>5|105=>161|119=>217|0=>0|46=>213|139=>222|138=>221|n=>n,fun|3=>1|4=>2|n=>n⟩
theorem Tryz.dec197:Go.Proofs.Lays.n197 Tryz.prog Tryz.dec197_ren:={
 mixed:=by kernel_rfl
 f197:=Tryz.func164.trans (congrArg some (by kernel_rfl))
 f260:=Tryz.func205.trans (congrArg some (by kernel_rfl))
 t0:=Tryz.underlying0
 a0:=Tryz.isAgg0
 z0:=Tryz.sizeOf0
 v0:=Tryz.zeroValue0
 t3:=Tryz.underlying3
 a3:=Tryz.isAgg3
 z3:=Tryz.sizeOf3
 v3:=Tryz.zeroValue3
 t4:=Tryz.underlying4
 a4:=Tryz.isAgg4
 z4:=Tryz.sizeOf4
 v4:=Tryz.zeroValue4
 t5:=Tryz.underlying5
 a5:=Tryz.isAgg5
 z5:=Tryz.sizeOf5
 v5:=Tryz.zeroValue5
 t9:=Tryz.underlying9
 a9:=Tryz.isAgg9
 z9:=Tryz.sizeOf9
 v9:=Tryz.zeroValue9
 t21:=Tryz.underlying21
 a21:=Tryz.isAgg21
 z21:=Tryz.sizeOf21
 v21:=Tryz.zeroValue21
 t46:=Tryz.underlying213
 a46:=Tryz.isAgg213
 z46:=Tryz.sizeOf213
 v46:=Tryz.zeroValue213
 t105:=Tryz.underlying161
 a105:=Tryz.isAgg161
 z105:=Tryz.sizeOf161
 v105:=Tryz.zeroValue161
 t119:=Tryz.underlying217
 a119:=Tryz.isAgg217
 z119:=Tryz.sizeOf217
 t138:=Tryz.underlying221
 a138:=Tryz.isAgg221
 z138:=Tryz.sizeOf221
 v138:=Tryz.zeroValue221
 t139:=Tryz.underlying222
 a139:=Tryz.isAgg222
 z139:=Tryz.sizeOf222
 v139:=Tryz.zeroValue222
 g3:=by kernel_rfl
 g4:=by kernel_rfl}
def Tryz.cmp106_ren:Go.Shelf.Ren:=⟨fun|106=>259|213=>279|265=>290|n=>n,fun|9=>9|3=>3|n=>n,fun|n=>n⟩
theorem Tryz.cmp106:Go.Proofs.Lays.n106 Tryz.prog Tryz.cmp106_ren:={
 mixed:=by kernel_rfl
 f106:=Tryz.func259.trans (congrArg some (by kernel_rfl))
 f213:=Tryz.func279.trans (congrArg some (by kernel_rfl))
 f265:=Tryz.func290.trans (congrArg some (by kernel_rfl))
 t3:=Tryz.underlying3
 a3:=Tryz.isAgg3
 z3:=Tryz.sizeOf3
 v3:=Tryz.zeroValue3
 t9:=Tryz.underlying9
 a9:=Tryz.isAgg9
 z9:=Tryz.sizeOf9
 v9:=Tryz.zeroValue9}
def Tryz.sort6_ren:Go.Shelf.Ren:=⟨fun|6=>236|15=>255|14=>254|28=>275|29=>276|20=>267|21=>268|22=>269|23=>270|24=>271|25=>272|26=>273|27=>274|46=>285|47=>286|48=>287|49=>288|50=>289|57=>292|n=>n,fun|22=>23|24=>25|25=>210|3=>3|39=>213|0=>0|53=>240|55=>22|4=>4|46=>247|45=>246|50=>83|5=>5|9=>9|66=>268|70=>95|76=>276|77=>277|n=>n,fun|n=>n⟩
theorem Tryz.sort6:Go.Proofs.SlLaysF0.n6 Tryz.prog Tryz.sort6_ren:={
 mixed:=by kernel_rfl
 f6:=⟨Tryz.f236.name,by decide,Tryz.func236.trans (congrArg some (by kernel_rfl))⟩
 f14:=⟨Tryz.f254.name,by decide,Tryz.func254.trans (congrArg some (by kernel_rfl))⟩
 f15:=Tryz.func255.trans (congrArg some (by kernel_rfl))
 f20:=⟨Tryz.f267.name,by decide,Tryz.func267.trans (congrArg some (by kernel_rfl))⟩
 f21:=⟨Tryz.f268.name,by decide,Tryz.func268.trans (congrArg some (by kernel_rfl))⟩
 f22:=⟨Tryz.f269.name,by decide,Tryz.func269.trans (congrArg some (by kernel_rfl))⟩
 f23:=⟨Tryz.f270.name,by decide,Tryz.func270.trans (congrArg some (by kernel_rfl))⟩
 f24:=⟨Tryz.f271.name,by decide,Tryz.func271.trans (congrArg some (by kernel_rfl))⟩
 f25:=⟨Tryz.f272.name,by decide,Tryz.func272.trans (congrArg some (by kernel_rfl))⟩
 f26:=⟨Tryz.f273.name,by decide,Tryz.func273.trans (congrArg some (by kernel_rfl))⟩
 f27:=⟨Tryz.f274.name,by decide,Tryz.func274.trans (congrArg some (by kernel_rfl))⟩
 f28:=Tryz.func275.trans (congrArg some (by kernel_rfl))
 f29:=Tryz.func276.trans (congrArg some (by kernel_rfl))
 f46:=⟨Tryz.f285.name,by decide,Tryz.func285.trans (congrArg some (by kernel_rfl))⟩
 f47:=Tryz.func286.trans (congrArg some (by kernel_rfl))
 f48:=Tryz.func287.trans (congrArg some (by kernel_rfl))
 f49:=⟨Tryz.f288.name,by decide,Tryz.func288.trans (congrArg some (by kernel_rfl))⟩
 f50:=⟨Tryz.f289.name,by decide,Tryz.func289.trans (congrArg some (by kernel_rfl))⟩
 f57:=⟨Tryz.f292.name,by decide,Tryz.func292.trans (congrArg some (by kernel_rfl))⟩
 t0:=Tryz.underlying0
 a0:=Tryz.isAgg0
 z0:=Tryz.sizeOf0
 v0:=Tryz.zeroValue0
 t3:=Tryz.underlying3
 a3:=Tryz.isAgg3
 z3:=Tryz.sizeOf3
 v3:=Tryz.zeroValue3
 t4:=Tryz.underlying4
 a4:=Tryz.isAgg4
 z4:=Tryz.sizeOf4
 v4:=Tryz.zeroValue4
 t5:=Tryz.underlying5
 a5:=Tryz.isAgg5
 z5:=Tryz.sizeOf5
 v5:=Tryz.zeroValue5
 t9:=Tryz.underlying9
 a9:=Tryz.isAgg9
 z9:=Tryz.sizeOf9
 v9:=Tryz.zeroValue9
 t22:=Tryz.underlying23
 a22:=Tryz.isAgg23
 z22:=Tryz.sizeOf23
 v22:=Tryz.zeroValue23
 t25:=Tryz.underlying210
 a25:=Tryz.isAgg210
 z25:=Tryz.sizeOf210
 v25:=Tryz.zeroValue210
 t39:=Tryz.underlying213
 a39:=Tryz.isAgg213
 z39:=Tryz.sizeOf213
 v39:=Tryz.zeroValue213
 t45:=Tryz.underlying246
 a45:=Tryz.isAgg246
 z45:=Tryz.sizeOf246
 v45:=Tryz.zeroValue246
 t46:=Tryz.underlying247
 a46:=Tryz.isAgg247
 z46:=Tryz.sizeOf247
 v46:=Tryz.zeroValue247
 t50:=Tryz.underlying83
 a50:=Tryz.isAgg83
 z50:=Tryz.sizeOf83
 v50:=Tryz.zeroValue83
 t53:=Tryz.underlying240
 a53:=Tryz.isAgg240
 z53:=Tryz.sizeOf240
 v53:=Tryz.zeroValue240
 t55:=Tryz.underlying22
 a55:=Tryz.isAgg22
 z55:=Tryz.sizeOf22
 v55:=Tryz.zeroValue22
 t66:=Tryz.underlying268
 a66:=Tryz.isAgg268
 z66:=Tryz.sizeOf268
 v66:=Tryz.zeroValue268
 t70:=Tryz.underlying95
 a70:=Tryz.isAgg95
 z70:=Tryz.sizeOf95
 v70:=Tryz.zeroValue95
 t76:=Tryz.underlying276
 a76:=Tryz.isAgg276
 z76:=Tryz.sizeOf276
 v76:=Tryz.zeroValue276
 t77:=Tryz.underlying277
 a77:=Tryz.isAgg277
 z77:=Tryz.sizeOf277
 v77:=Tryz.zeroValue277}
def Tryz.cont8_ren:Go.Shelf.Ren:=⟨fun|8=>238|6=>261|n=>n,fun|22=>23|23=>25|25=>154|4=>4|3=>3|0=>0|n=>n,fun|n=>n⟩
theorem Tryz.cont8:Go.Proofs.SlLaysH0.n8 Tryz.prog Tryz.cont8_ren:={
 mixed:=by kernel_rfl
 f6:=⟨Tryz.f261.name,by decide,Tryz.func261.trans (congrArg some (by kernel_rfl))⟩
 f8:=⟨Tryz.f238.name,by decide,Tryz.func238.trans (congrArg some (by kernel_rfl))⟩
 t0:=Tryz.underlying0
 a0:=Tryz.isAgg0
 z0:=Tryz.sizeOf0
 v0:=Tryz.zeroValue0
 t3:=Tryz.underlying3
 a3:=Tryz.isAgg3
 z3:=Tryz.sizeOf3
 v3:=Tryz.zeroValue3
 t4:=Tryz.underlying4
 a4:=Tryz.isAgg4
 z4:=Tryz.sizeOf4
 v4:=Tryz.zeroValue4
 t22:=Tryz.underlying23
 a22:=Tryz.isAgg23
 z22:=Tryz.sizeOf23
 v22:=Tryz.zeroValue23
 t25:=Tryz.underlying154
 a25:=Tryz.isAgg154
 z25:=Tryz.sizeOf154
 v25:=Tryz.zeroValue154}
def Tryz.clone41_ren:Go.Shelf.Ren:=⟨fun|41=>148|n=>n,fun|22=>23|23=>25|4=>4|n=>n,fun|n=>n⟩
theorem Tryz.clone41:Go.Proofs.SlLaysE0.n41 Tryz.prog Tryz.clone41_ren:={
 mixed:=by kernel_rfl
 f41:=⟨Tryz.f148.name,by decide,Tryz.func148.trans (congrArg some (by kernel_rfl))⟩
 t4:=Tryz.underlying4
 a4:=Tryz.isAgg4
 z4:=Tryz.sizeOf4
 v4:=Tryz.zeroValue4
 t22:=Tryz.underlying23
 a22:=Tryz.isAgg23
 z22:=Tryz.sizeOf23
 v22:=Tryz.zeroValue23}
end Go.Proofs
namespace Go.Proofs.YtfjlnfogbfmpiaaGreatDoor.Va
open Go Go.RowKit Nu
attribute [local go_sem ↓] Go.wp_at_zero Go.wp_at_succ
theorem nan_int (a:Int) (w:World):Calls Tryz.prog 277 #[.int .i64 a] w fun e w'=>e= .returned (.bool false)∧w'=w:=by
 go_enter Tryz.func277,Tryz.ntmps277
 go_wp2
 all_goals (go_ret;exact ⟨ret_bool (by simp),rfl⟩)
theorem nan_u64 (a:Int) (w:World):Calls Tryz.prog 278 #[.int .u64 a] w fun e w'=>e= .returned (.bool false)∧w'=w:=by
 go_enter Tryz.func278,Tryz.ntmps278
 go_wp2
 all_goals (go_ret;exact ⟨ret_bool (by simp),rfl⟩)
theorem cmp_int (a b:Int) (w:World):Calls Tryz.prog 257 #[.int .i64 a,.int .i64 b] w fun e w'=>e= .returned (.int .i64 (Lib.compareInt a b))∧w'=w:=by
 have hc:(a<b∧Lib.compareInt a b= -1)∨(¬a<b∧b<a∧Lib.compareInt a b=1)∨(¬a<b∧¬b<a∧Lib.compareInt a b=0):=by
  unfold Lib.compareInt;(repeat' split)<;>omega
 obtain ⟨R,hR⟩:∃ R,Lib.compareInt a b=R:=⟨_,rfl⟩
 rw [hR] at hc ⊢
 rcases hc with ⟨h1,rfl⟩|⟨h1,h2,rfl⟩|⟨h1,h2,rfl⟩
 all_goals
  clear hR
  go_enter Tryz.func257,Tryz.ntmps257
  go_wp2_with (go_at_call 277;refine (nan_int _ _).mono ?_;rintro e w' ⟨rfl,rfl⟩)
  go_ret
  exact ⟨rfl,rfl⟩
theorem cmp_u64 (a b:Int) (w:World):Calls Tryz.prog 258 #[.int .u64 a,.int .u64 b] w fun e w'=>e= .returned (.int .i64 (Lib.compareInt a b))∧w'=w:=by
 have hc:(a<b∧Lib.compareInt a b= -1)∨(¬a<b∧b<a∧Lib.compareInt a b=1)∨(¬a<b∧¬b<a∧Lib.compareInt a b=0):=by
  unfold Lib.compareInt;(repeat' split)<;>omega
 obtain ⟨R,hR⟩:∃ R,Lib.compareInt a b=R:=⟨_,rfl⟩
 rw [hR] at hc ⊢
 rcases hc with ⟨h1,rfl⟩|⟨h1,h2,rfl⟩|⟨h1,h2,rfl⟩
 all_goals
  clear hR
  go_enter Tryz.func258,Tryz.ntmps258
  go_wp2_with (go_at_call 278;refine (nan_u64 _ _).mono ?_;rintro e w' ⟨rfl,rfl⟩)
  go_ret
  exact ⟨rfl,rfl⟩
theorem cmp_str (a b:ByteArray) (w:World):Calls Tryz.prog 259 #[.string a,.string b] w fun e w'=>e= .returned (.int .i64 (Lib.compareBytes a.data.toList b.data.toList))∧w'=w:=
 Any.strings_Compare Tryz.cmp106 a b w
theorem ret_i {a b:Int} (h:a=b):Ending.returned (.int .i64 a)= .returned (.int .i64 b):=by rw [h]
theorem or3 (b:Nat) (a0 a1 a2:Int) (c:Nat) (w:World) (h0:w.cell? ⟨b,0,none⟩=some (.int .i64 a0)) (h1:w.cell? ⟨b,1,none⟩=some (.int .i64 a1)) (h2:w.cell? ⟨b,2,none⟩=some (.int .i64 a2)):
 Calls Tryz.prog 256 #[.slice (some ⟨b,0,none⟩) 3 c] w fun e w'=>e= .returned (.int .i64 (seq a0 (seq a1 a2)))∧w'=w:=by
 by_cases n0:a0=0
 ·by_cases n1:a1=0
  ·subst n0 n1
   by_cases n2:a2=0
   ·subst n2
    go_enter Tryz.func256,Tryz.ntmps256
    go_wp2
    refine wp_loop_rounds 4 ?_
    repeat (rw [rounds_succ];go_wp2)
    go_ret
    exact ⟨rfl,rfl⟩
   ·have H:=Lib.hid n2
    have hb:(a2 !=0)=true:=by simpa using n2
    clear n2
    go_enter Tryz.func256,Tryz.ntmps256
    go_wp2
    refine wp_loop_rounds 4 ?_
    repeat (rw [rounds_succ];go_wp2)
    go_ret
    exact ⟨rfl,rfl⟩
  ·subst n0
   have H:=Lib.hid n1
   have hb:(a1 !=0)=true:=by simpa using n1
   have hs:seq 0 (seq a1 a2)=a1:=by unfold seq;simp [n1]
   rw [hs]
   clear n1 hs
   go_enter Tryz.func256,Tryz.ntmps256
   go_wp2
   refine wp_loop_rounds 4 ?_
   repeat (rw [rounds_succ];go_wp2)
   go_ret
   exact ⟨rfl,rfl⟩
 ·have hb:(a0 !=0)=true:=by simpa using n0
  have hs:seq a0 (seq a1 a2)=a0:=by unfold seq;simp [n0]
  rw [hs]
  clear n0 hs
  go_enter Tryz.func256,Tryz.ntmps256
  go_wp2
  refine wp_loop_rounds 4 ?_
  repeat (rw [rounds_succ];go_wp2)
  go_ret
  exact ⟨rfl,rfl⟩
theorem or2 (b:Nat) (a0 a1:Int) (c:Nat) (w:World) (h0:w.cell? ⟨b,0,none⟩=some (.int .i64 a0)) (h1:w.cell? ⟨b,1,none⟩=some (.int .i64 a1)):
 Calls Tryz.prog 256 #[.slice (some ⟨b,0,none⟩) 2 c] w fun e w'=>e= .returned (.int .i64 (seq a0 a1))∧w'=w:=by
 by_cases n0:a0=0
 ·subst n0
  by_cases n2:a1=0
  ·subst n2
   go_enter Tryz.func256,Tryz.ntmps256
   go_wp2
   refine wp_loop_rounds 3 ?_
   repeat (rw [rounds_succ];go_wp2)
   go_ret
   exact ⟨rfl,rfl⟩
  ·have H:=Lib.hid n2
   have hb:(a1 !=0)=true:=by simpa using n2
   clear n2
   go_enter Tryz.func256,Tryz.ntmps256
   go_wp2
   refine wp_loop_rounds 3 ?_
   repeat (rw [rounds_succ];go_wp2)
   go_ret
   exact ⟨rfl,rfl⟩
 ·have hb:(a0 !=0)=true:=by simpa using n0
  have hs:seq a0 a1=a0:=by unfold seq;simp [n0]
  rw [hs]
  clear n0 hs
  go_enter Tryz.func256,Tryz.ntmps256
  go_wp2
  refine wp_loop_rounds 3 ?_
  repeat (rw [rounds_succ];go_wp2)
  go_ret
  exact ⟨rfl,rfl⟩
theorem new_row {W:World} {B:Nat} (h:W.heap.size=B) {cs:Array Value} {T:TypeId} (j:Nat) (u:Value) (hu:cs[j]? =some u):((W.alloc (.cells cs T)).drew).cell? ⟨B,j,none⟩=some u:=by
 have h1:(W.alloc (.cells cs T)).cell? ⟨W.heap.size,j,none⟩=some u:=by rw [World.cell?_alloc_new];exact hu
 rw [h] at h1
 exact ((Below.refl (B+1) (W.alloc (.cells cs T))).drew.cell (p:=⟨B,j,none⟩) (by simp)).trans h1
theorem new_cell (W:World) (cs:Array Value) (T:TypeId) (j:Nat) (u:Value) (hu:cs[j]? =some u):(W.alloc (.cells cs T)).cell? ⟨W.heap.size,j,none⟩=some u:=by
 rw [World.cell?_alloc_new];exact hu
abbrev ordFn:Value:= .func (.func 237) #[] #[]
def CmpS (N:Nat):Prop:=∀ (B:Nat) (lv lv':Value) (l l':List VT) (w:World),LAt B w N lv l→LAt B w N lv' l'→B≤w.heap.size→
    Calls Tryz.prog 260 #[lv,lv',ordFn] w fun e w'=>e= .returned (.int .i64 (ordTs l l'))∧Grows w w'
theorem order_of {N:Nat} (hS:CmpS N) (B:Nat) (k m:Int) (s:ByteArray) (e:Int) (l:List VT) (lv:Value) (k' m':Int) (s':ByteArray) (e':Int) (l':List VT) (lv':Value) (w:World) (hl:LAt B w N lv l) (hl':LAt B w N lv' l') (hB:B≤w.heap.size):
 Calls Tryz.prog 237 #[.agg #[.int .i64 k,.int .u64 m,.string s,lv,.int .i64 e],.agg #[.int .i64 k',.int .u64 m',.string s',lv',.int .i64 e']] w fun r w'=>r= .returned (.int .i64 (ordT (.mk k m s e l) (.mk k' m' s' e' l')))∧Grows w w':=by
 have HS:=Lib.hid hS
 have HL:=Lib.hid hl
 have HL':=Lib.hid hl'
 clear hS hl hl'
 obtain ⟨X0,hX0⟩:∃ X,Lib.compareInt k k'=X:=⟨_,rfl⟩
 obtain ⟨X1,hX1⟩:∃ X,Lib.compareInt m m'=X:=⟨_,rfl⟩
 obtain ⟨X2,hX2⟩:∃ X,Lib.compareBytes s.data.toList s'.data.toList=X:=⟨_,rfl⟩
 obtain ⟨X3,hX3⟩:∃ X,ordTs l l'=X:=⟨_,rfl⟩
 obtain ⟨X4,hX4⟩:∃ X,Lib.compareInt e e'=X:=⟨_,rfl⟩
 have hR:ordT (.mk k m s e l) (.mk k' m' s' e' l')=seq (seq X0 (seq X1 X2)) (seq X3 X4):=by
  rw [ordT,hX0,hX1,hX2,hX3,hX4]
 rw [hR]
 obtain ⟨R,hRR⟩:∃ R,seq (seq X0 (seq X1 X2)) (seq X3 X4)=R:=⟨_,rfl⟩
 rw [hRR]
 have HR:=Lib.hid hRR
 clear hRR
 have c0:=fun w=>cmp_int k k' w
 have c1:=fun w=>cmp_u64 m m' w
 have c2:=fun w=>cmp_str s s' w
 have c4:=fun w=>cmp_int e e' w
 rw [hX0] at c0
 rw [hX1] at c1
 rw [hX2] at c2
 rw [hX4] at c4
 have C0:=Lib.hid c0
 have C1:=Lib.hid c1
 have C2:=Lib.hid c2
 have C4:=Lib.hid c4
 have H3:=Lib.hid hX3
 clear c0 c1 c2 c4 hX0 hX1 hX2 hX3 hX4 hR
 go_enter Tryz.func237,Tryz.ntmps237
 go_wp2
 obtain ⟨W1,hW1⟩:∃ W1,(w.alloc (.cells #[.int .i64 k,.int .u64 m,.string s,lv,.int .i64 e] 25)).alloc (.cells #[.int .i64 k',.int .u64 m',.string s',lv',.int .i64 e'] 25)=W1:=⟨_,rfl⟩
 have hz1:W1.heap.size=w.heap.size+2:=by rw [←hW1];simp
 have hg1:Grows w W1:=by rw [←hW1];exact ((Grows.refl _).alloc _).alloc _
 have hc:∀ j u,([.int .i64 k,.int .u64 m,.string s,lv,.int .i64 e]:List Value)[j]? =some u→W1.cell? ⟨w.heap.size,j,none⟩=some u:=by
  intro j u hu
  have h1:((w.alloc (.cells #[.int .i64 k,.int .u64 m,.string s,lv,.int .i64 e] 25))).cell? ⟨w.heap.size,j,none⟩=some u:=by
   rw [World.cell?_alloc_new];simpa using hu
  rw [←hW1]
  exact (((Below.refl _ _).alloc (Nat.le_refl _) _).cell (p:=⟨w.heap.size,j,none⟩) (by simp)).trans h1
 have hc':∀ j u,([.int .i64 k',.int .u64 m',.string s',lv',.int .i64 e']:List Value)[j]? =some u→W1.cell? ⟨w.heap.size+1,j,none⟩=some u:=by
  intro j u hu
  have h1:=World.cell?_alloc_new (w.alloc (.cells #[.int .i64 k,.int .u64 m,.string s,lv,.int .i64 e] 25)) #[.int .i64 k',.int .u64 m',.string s',lv',.int .i64 e'] 25 j
  rw [show (w.alloc (.cells #[.int .i64 k,.int .u64 m,.string s,lv,.int .i64 e] 25)).heap.size=w.heap.size+1 by simp] at h1
  rw [←hW1,h1];simpa using hu
 rw [hW1]
 clear hW1
 have HALL:Hid (∀ w',Below W1.heap.size W1 w'→(Below W1.heap.size W1 w'∧w'.cell? ⟨w.heap.size,0,none⟩=some (.int .i64 k)∧w'.cell? ⟨w.heap.size,1,none⟩=some (.int .u64 m)∧w'.cell? ⟨w.heap.size,2,none⟩=some (.string s)∧w'.cell? ⟨w.heap.size+1,0,none⟩=some (.int .i64 k')∧w'.cell? ⟨w.heap.size+1,1,none⟩=some (.int .u64 m')∧w'.cell? ⟨w.heap.size+1,2,none⟩=some (.string s'))):=fun w' h=>
  have q:∀ b o,b<W1.heap.size→w'.cell? ⟨b,o,none⟩=W1.cell? ⟨b,o,none⟩:=fun b o hb=>h.cell (p:=⟨b,o,none⟩) hb
  ⟨h,(q _ _ (by omega)).trans (hc 0 _ rfl),(q _ _ (by omega)).trans (hc 1 _ rfl),(q _ _ (by omega)).trans (hc 2 _ rfl),(q _ _ (by omega)).trans (hc' 0 _ rfl),(q _ _ (by omega)).trans (hc' 1 _ rfl),(q _ _ (by omega)).trans (hc' 2 _ rfl)⟩
 have HALL2:Hid (∀ w',Below W1.heap.size W1 w'→(Below W1.heap.size W1 w'∧w'.cell? ⟨w.heap.size,3,none⟩=some lv∧w'.cell? ⟨w.heap.size,4,none⟩=some (.int .i64 e)∧w'.cell? ⟨w.heap.size+1,3,none⟩=some lv'∧w'.cell? ⟨w.heap.size+1,4,none⟩=some (.int .i64 e'))):=fun w' h=>
  have q:∀ b o,b<W1.heap.size→w'.cell? ⟨b,o,none⟩=W1.cell? ⟨b,o,none⟩:=fun b o hb=>h.cell (p:=⟨b,o,none⟩) hb
  ⟨h,(q _ _ (by omega)).trans (hc 3 _ rfl),(q _ _ (by omega)).trans (hc 4 _ rfl),(q _ _ (by omega)).trans (hc' 3 _ rfl),(q _ _ (by omega)).trans (hc' 4 _ rfl)⟩
 clear hc hc'
 obtain ⟨_,a0,a1,a2,b0,b1,b2⟩:=HALL.out W1 (Below.refl _ _)
 go_region_held3 (fun w'=>Below W1.heap.size W1 w'∧w'.cell? ⟨w.heap.size,0,none⟩=some (.int .i64 k)∧w'.cell? ⟨w.heap.size,1,none⟩=some (.int .u64 m)∧w'.cell? ⟨w.heap.size,2,none⟩=some (.string s)∧w'.cell? ⟨w.heap.size+1,0,none⟩=some (.int .i64 k')∧w'.cell? ⟨w.heap.size+1,1,none⟩=some (.int .u64 m')∧w'.cell? ⟨w.heap.size+1,2,none⟩=some (.string s'))
  (first
    |exact HALL.out _ (Below.refl _ _)
    |exact HALL.out _ (Below.refl _ _).drew
    |exact HALL.out _ ((Below.refl _ _).drew.alloc (by simp) _)
    |assumption)
  ((first
    |(go_at_call 257;refine (C0.out _).mono ?_;rintro r w2 ⟨rfl,rfl⟩)
    |(go_at_call 258;refine (C1.out _).mono ?_;rintro r w2 ⟨rfl,rfl⟩)
    |(go_at_call 259;refine (C2.out _).mono ?_;rintro r w2 ⟨rfl,rfl⟩)
    |(go_at_call 256;refine (or3 _ _ _ _ _ _ (new_row hz1 0 _ rfl) (new_row hz1 1 _ rfl) (new_row hz1 2 _ rfl)).mono ?_;rintro r w2 ⟨rfl,rfl⟩)))
 obtain ⟨W2,hW2⟩:∃ W2,(W1.alloc (.cells #[.int .i64 X0,.int .i64 X1,.int .i64 X2] 3)).drew=W2:=⟨_,rfl⟩
 have hg2:Grows W1 W2:=by rw [←hW2];exact ((Grows.refl _).alloc _).drew
 have hz2:W2.heap.size=w.heap.size+3:=by rw [←hW2];simp;omega
 obtain ⟨Y,hY⟩:∃ Y,seq X0 (seq X1 X2)=Y:=⟨_,rfl⟩
 have HRY:Hid (seq Y (seq X3 X4)=R):=by rw [←hY];exact HR.out
 rw [hW2,hY]
 clear HR hW2 hY a0 a1 a2 b0 b1 b2 C0 C1 C2
 by_cases hn:Y=0
 ·subst hn
  have hs:Hid (seq X3 X4=R):=by rw [←HRY.out];show seq X3 X4=seq 0 (seq X3 X4);unfold seq;simp
  clear HRY
  have HALL3:Hid (∀ w',Below W2.heap.size W2 w'→(Below W2.heap.size W2 w'∧w'.cell? ⟨w.heap.size,3,none⟩=some lv∧w'.cell? ⟨w.heap.size,4,none⟩=some (.int .i64 e)∧w'.cell? ⟨w.heap.size+1,3,none⟩=some lv'∧w'.cell? ⟨w.heap.size+1,4,none⟩=some (.int .i64 e'))):=fun w' h=>
   ⟨h,(HALL2.out w' (hg2.below.trans (h.mono hg2.size))).2⟩
  have HLA:Hid (∀ w',Below W2.heap.size W2 w'→LAt B w' N lv l∧LAt B w' N lv' l'∧B≤w'.heap.size):=fun w' h=>
   have hb:Below B w w':=((hg1.trans hg2).below.trans (h.mono (hg1.trans hg2).size)).mono hB
   ⟨HL.out.below hb,HL'.out.below hb,by have:=h.size;omega⟩
  clear HALL HALL2 HL HL'
  obtain ⟨_,a3,a4,b3,b4⟩:=HALL3.out W2 (Below.refl _ _)
  go_wp2
  go_region_held3 (fun w'=>Below W2.heap.size W2 w'∧w'.cell? ⟨w.heap.size,3,none⟩=some lv∧w'.cell? ⟨w.heap.size,4,none⟩=some (.int .i64 e)∧w'.cell? ⟨w.heap.size+1,3,none⟩=some lv'∧w'.cell? ⟨w.heap.size+1,4,none⟩=some (.int .i64 e'))
   (first
     |exact HALL3.out _ (Below.refl _ _)
     |exact HALL3.out _ (Below.refl _ _).drew
     |exact HALL3.out _ ((Below.refl _ _).drew.trans hg3.below)
     |exact HALL3.out _ (((Below.refl _ _).drew.trans hg3.below).alloc hsz3 _)
     |assumption)
   ((first
     |(go_at_call 257;refine (C4.out _).mono ?_;rintro r w2 ⟨rfl,rfl⟩)
     |(go_at_call 260;refine (HS.out B lv lv' l l' W2.drew (HLA.out _ (Below.refl _ _).drew).1 (HLA.out _ (Below.refl _ _).drew).2.1 (HLA.out _ (Below.refl _ _).drew).2.2).mono ?_;rintro r w3 ⟨hr,hg3⟩;rw [H3.out] at hr;subst hr;have hsz3:W2.heap.size≤w3.heap.size:=hg3.size)
     |(go_at_call 256;refine (or2 _ _ _ _ _ (new_cell _ _ _ 0 _ rfl) (new_cell _ _ _ 1 _ rfl)).mono ?_;rintro r w4 ⟨rfl,rfl⟩)))
  all_goals
   go_wp2
   go_ret
   exact ⟨ret_i hs.out,(hg1.trans hg2).trans ((((Grows.refl W2).drew).trans hg3).alloc _)⟩
 ·have hb:(Y !=0)=true:=by simpa using hn
  have hs:Hid (Y=R):=by rw [←HRY.out];show Y=seq Y (seq X3 X4);unfold seq;simp [hn]
  clear hn HRY HALL HALL2
  go_wp2
  go_ret
  exact ⟨ret_i hs.out,hg1.trans hg2⟩
theorem cmps:∀ N,CmpS N:=by
 intro N
 induction N with
 |zero=>intro B lv lv' l l' w h;exact h.elim
 |succ N ih=>
  intro B lv lv' l l' w hl hl' hB
  have HS:=Lib.hid ih
  have HL:=Lib.hid hl
  have HL':=Lib.hid hl'
  obtain ⟨p,c,rfl⟩:=hl.slice
  obtain ⟨p',c',rfl⟩:=hl'.slice
  have hlen:l.length≤9223372036854775807:=hl.len
  have hlen':l'.length≤9223372036854775807:=hl'.len
  clear hl hl' ih
  obtain ⟨n,hn⟩:∃ n,l.length=n:=⟨_,rfl⟩
  obtain ⟨n',hn'⟩:∃ n,l'.length=n:=⟨_,rfl⟩
  have Hn:=Lib.hid hn
  have Hn':=Lib.hid hn'
  rw [hn] at hlen HL ⊢
  rw [hn'] at hlen' HL' ⊢
  clear hn hn'
  go_enter Tryz.func260,Tryz.ntmps260
  go_wp2
  go_loopw [13] (fun i wr=>∃ (j:Nat),i= .int .i64 j∧j≤n∧j≤n'∧Hid (ordTs (l.drop j) (l'.drop j)=ordTs l l')∧Grows w wr) (fun i _=>n-(intOf i).toNat)
  case atStart=>exact ⟨0,rfl,Nat.zero_le _,Nat.zero_le _,rfl,Grows.refl _⟩
  case round=>
   obtain ⟨j,rfl,hj,hj',HQ,hg⟩:=hrel
   have HG:=Lib.hid hg
   clear hg
   by_cases hlt:j<n
   ·rcases HL.out with ⟨h0,_⟩|⟨b,off,c0,hp,hbB,_,hel⟩
    ·rw [←Hn.out,h0] at hlt;exact absurd hlt (by simp)
    obtain ⟨t,ht⟩:∃ t,l[j]? =some t:=⟨_,List.getElem?_eq_getElem (by rw [Hn.out];exact hlt)⟩
    obtain ⟨hf,lv,hat,hl⟩:=hel j t ht
    obtain ⟨pe,ce,rfl⟩:=hl.slice
    have hbw:Below B w wr:=HG.out.below.mono hB
    have hzw:=HG.out.size
    obtain ⟨e0,e1,e2,e3,e4⟩:=hat.below hbw hbB
    rw [Hn.out] at hp
    cases hp
    by_cases hlt':j<n'
    ·rcases HL'.out with ⟨h0,_⟩|⟨b',off',c0',hp',hbB',_,hel'⟩
     ·rw [←Hn'.out,h0] at hlt';exact absurd hlt' (by simp)
     rw [Hn'.out] at hp'
     cases hp'
     obtain ⟨t',ht'⟩:∃ t,l'[j]? =some t:=⟨_,List.getElem?_eq_getElem (by rw [Hn'.out];exact hlt')⟩
     obtain ⟨hf',lv',hat',hl'⟩:=hel' j t' ht'
     obtain ⟨pe',ce',rfl⟩:=hl'.slice
     obtain ⟨f0,f1,f2,f3,f4⟩:=hat'.below hbw hbB'
     have HLA:Hid (∀ w',Below wr.heap.size wr w'→LAt B w' N (.slice pe t.list.length ce) t.list∧LAt B w' N (.slice pe' t'.list.length ce') t'.list∧B≤w'.heap.size):=fun w' h=>
      have hb:Below B w w':=hbw.trans (h.mono (by omega))
      ⟨hl.below hb,hl'.below hb,by have:=h.size;omega⟩
     have hst:=Lib.hid (ordTs_step ht ht')
     have hi0:(0:Int)≤(j:Int):=by omega
     have hi1:(j:Int)<(n:Int):=by omega
     have hi2:(j:Int)<(n':Int):=by omega
     have hb0:b<wr.heap.size:=by omega
     have hb0':b'<wr.heap.size:=by omega
     obtain ⟨X,hX⟩:∃ X,ordT t t'=X:=⟨_,rfl⟩
     rw [hX] at hst
     have HX:=Lib.hid hX
     clear hel hel' hat hat' hl hl' ht ht' hX
     have HC:Hid (∀ w',Grows wr w'→Calls Tryz.prog 237 #[.agg #[.int .i64 t.kind,.int .u64 t.num,.string t.text,.slice pe t.list.length ce,.int .i64 t.elem],.agg #[.int .i64 t'.kind,.int .u64 t'.num,.string t'.text,.slice pe' t'.list.length ce',.int .i64 t'.elem]] w' fun r w''=>r= .returned (.int .i64 X)∧Grows w' w''):=fun w' h=>by
      have hh:=HLA.out w' h.below
      have:=order_of HS.out B t.kind t.num t.text t.elem t.list (.slice pe t.list.length ce) t'.kind t'.num t'.text t'.elem t'.list (.slice pe' t'.list.length ce') w' hh.1 hh.2.1 hh.2.2
      rwa [VT.eta,VT.eta,HX.out] at this
     clear HLA
     by_cases hn:X=0
     ·subst hn
      have hst2:Hid (ordTs (l.drop (j+1)) (l'.drop (j+1))=ordTs l l'):=by
       show ordTs _ _=_;rw [←HQ.out,hst.out,seq_0]
      clear hst
      go_wp2_with (go_at_call 237;refine (HC.out _ (((Grows.refl _).alloc _).alloc _)).mono ?_;rintro r w2 ⟨rfl,hg2⟩)
      go_roundw
      case rel=>exact ⟨j+1,by go_num,by omega,by omega,hst2.out,HG.out.trans ((((Grows.refl _).alloc _).alloc _).trans hg2)⟩
      case measure=>simp [intOf];omega
     ·have hb:(X !=0)=true:=by simpa using hn
      have hst2:Hid (X=ordTs l l'):=by
       show X=_;rw [←HQ.out,hst.out,seq_ne hn]
      clear hst hn
      go_wp2_with (go_at_call 237;refine (HC.out _ (((Grows.refl _).alloc _).alloc _)).mono ?_;rintro r w2 ⟨rfl,hg2⟩)
      go_ret
      exact ⟨ret_i hst2.out,HG.out.trans ((((Grows.refl _).alloc _).alloc _).trans hg2)⟩
    ·have HE:Hid (1=ordTs l l'):=by
      show 1=_;rw [←HQ.out,ordTs_over (by rw [Hn.out];exact hlt) (by rw [Hn'.out];omega)]
     have hi0:(0:Int)≤(j:Int):=by omega
     have hi1:(j:Int)<(n:Int):=by omega
     clear hel hat hl ht
     go_wp2
     go_ret
     exact ⟨ret_i HE.out,HG.out.trans ((Grows.refl _).alloc _)⟩
   ·obtain rfl:j=n:=by omega
    have HE:Hid ((if j<n' then -1 else 0)=ordTs l l'):=by
     show _=_;rw [←HQ.out,ordTs_end (by rw [Hn.out];exact Nat.le_refl _),Hn'.out]
    by_cases hlt':j<n'
    ·have HE2:Hid (-1=ordTs l l'):=by show -1=_;rw [←HE.out,if_pos hlt']
     go_wp2
     go_ret
     exact ⟨ret_i HE2.out,HG.out⟩
    ·have HE2:Hid (0=ordTs l l'):=by show 0=_;rw [←HE.out,if_neg hlt']
     go_wp2
     go_ret
     exact ⟨ret_i HE2.out,HG.out⟩
theorem order_any {N B:Nat} {t t':VT} {v v':Value} {w:World} (h:VAt B w N v t) (h':VAt B w N v' t') (hB:B≤w.heap.size):
 Calls Tryz.prog 237 #[v,v'] w fun r w'=>r= .returned (.int .i64 (ordT t t'))∧Grows w w':=by
 obtain ⟨_,lv,rfl,hl⟩:=h
 obtain ⟨_,lv',rfl,hl'⟩:=h'
 have:=order_of (cmps N) B t.kind t.num t.text t.elem t.list lv t'.kind t'.num t'.text t'.elem t'.list lv' w hl hl' hB
 rwa [VT.eta,VT.eta] at this
end Go.Proofs.YtfjlnfogbfmpiaaGreatDoor.Va
namespace Go.Proofs.YtfjlnfogbfmpiaaGreatDoor.Va
open Go Go.RowKit Nu
abbrev eqFn:Value:= .func (.func 22) #[] #[]
def EqS (N:Nat):Prop:=∀ (B:Nat) (lv lv':Value) (l l':List VT) (w:World),LAt B w N lv l→LAt B w N lv' l'→B≤w.heap.size→
    Calls Tryz.prog 48 #[lv,lv',eqFn] w fun e w'=>e= .returned (.bool (eqTs l l'))∧Grows w w'
theorem peq_of {N:Nat} (hS:EqS N) (B:Nat) (k m:Int) (s:ByteArray) (e:Int) (l:List VT) (lv:Value) (k' m':Int) (s':ByteArray) (e':Int) (l':List VT) (lv':Value) (w:World) (hl:LAt B w N lv l) (hl':LAt B w N lv' l') (hB:B≤w.heap.size):
 Calls Tryz.prog 22 #[.agg #[.int .i64 k,.int .u64 m,.string s,lv,.int .i64 e],.agg #[.int .i64 k',.int .u64 m',.string s',lv',.int .i64 e']] w fun r w'=>r= .returned (.bool (eqT (.mk k m s e l) (.mk k' m' s' e' l')))∧Grows w w':=by
 have HLA:Hid (∀ w',Grows w w'→LAt B w' N lv l∧LAt B w' N lv' l'∧B≤w'.heap.size):=fun w' h=>
  have hb:Below B w w':=h.below.mono hB
  ⟨hl.below hb,hl'.below hb,by have:=h.size;omega⟩
 have HS:=Lib.hid hS
 clear hl hl' hS
 have HE:=Lib.hid (eqT_mk (.mk k m s e l) (.mk k' m' s' e' l'))
 obtain ⟨R,hR⟩:∃ R,eqT (.mk k m s e l) (.mk k' m' s' e' l')=R:=⟨_,rfl⟩
 rw [hR] at HE ⊢
 clear hR
 by_cases hh:k=k'∧m=m'∧s=s'∧e=e'
 ·obtain ⟨rfl,rfl,rfl,rfl⟩:=hh
  have HE2:Hid (eqTs l l'=R):=by show eqTs l l'=R;rw [HE.out];simp [VT.kind,VT.num,VT.text,VT.elem,VT.list]
  clear HE
  go_enter Tryz.func22,Tryz.ntmps22
  go_wp2_with (go_at_call 48;refine (HS.out B lv lv' l l' _ (HLA.out _ (((Grows.refl _).alloc _).alloc _)).1 (HLA.out _ (((Grows.refl _).alloc _).alloc _)).2.1 (HLA.out _ (((Grows.refl _).alloc _).alloc _)).2.2).mono ?_;rintro r w2 ⟨hr,hg2⟩;rw [HE2.out] at hr;subst hr)
  go_ret
  exact ⟨rfl,(((Grows.refl _).alloc _).alloc _).trans hg2⟩
 ·have HN:=Lib.hid hh
  have HE2:Hid (R=false):=by
   show R=false
   rw [HE.out]
   by_cases h1:k=k'<;>by_cases h2:m=m'<;>by_cases h4:e=e'<;>simp_all [VT.kind,VT.num,VT.text,VT.elem,VT.list]
   exact fun h=>absurd (toList_inj h) hh
  clear hh HE
  go_enter Tryz.func22,Tryz.ntmps22
  go_wp2_with (go_at_call 48;exfalso;exact HN.out ⟨by assumption,by assumption,toList_inj (by assumption),by assumption⟩)
  all_goals
   go_ret
   exact ⟨ret_bool HE2.out.symm,((Grows.refl _).alloc _).alloc _⟩
theorem eqfs:∀ N,EqS N:=by
 intro N
 induction N with
 |zero=>intro B lv lv' l l' w h;exact h.elim
 |succ N ih=>
  intro B lv lv' l l' w hl hl' hB
  have HS:=Lib.hid ih
  have HL:=Lib.hid hl
  have HL':=Lib.hid hl'
  obtain ⟨p,c,rfl⟩:=hl.slice
  obtain ⟨p',c',rfl⟩:=hl'.slice
  have hlen:l.length≤9223372036854775807:=hl.len
  have hlen':l'.length≤9223372036854775807:=hl'.len
  clear hl hl' ih
  by_cases hll:l.length=l'.length
  ·obtain ⟨n,hn⟩:∃ n,l.length=n:=⟨_,rfl⟩
   have hn':l'.length=n:=by omega
   have Hn:=Lib.hid hn
   have Hn':=Lib.hid hn'
   rw [hn] at hlen HL ⊢
   rw [hn'] at HL' ⊢
   clear hn hn' hll hlen'
   go_enter Tryz.func48,Tryz.ntmps48
   go_wp2
   go_loopw [17] (fun i wr=>∃ (j:Nat),i= .int .i64 j∧j≤n∧Hid (eqTs (l.drop j) (l'.drop j)=eqTs l l')∧Grows w wr) (fun i _=>n-(intOf i).toNat)
   case atStart=>exact ⟨0,rfl,Nat.zero_le _,rfl,Grows.refl _⟩
   case round=>
    obtain ⟨j,rfl,hj,HQ,hg⟩:=hrel
    have HG:=Lib.hid hg
    clear hg
    by_cases hlt:j<n
    ·rcases HL.out with ⟨h0,_⟩|⟨b,off,c0,hp,hbB,_,hel⟩
     ·rw [←Hn.out,h0] at hlt;exact absurd hlt (by simp)
     rcases HL'.out with ⟨h0,_⟩|⟨b',off',c0',hp',hbB',_,hel'⟩
     ·rw [←Hn'.out,h0] at hlt;exact absurd hlt (by simp)
     rw [Hn.out] at hp
     rw [Hn'.out] at hp'
     cases hp
     cases hp'
     obtain ⟨t,ht⟩:∃ t,l[j]? =some t:=⟨_,List.getElem?_eq_getElem (by rw [Hn.out];exact hlt)⟩
     obtain ⟨t',ht'⟩:∃ t,l'[j]? =some t:=⟨_,List.getElem?_eq_getElem (by rw [Hn'.out];exact hlt)⟩
     obtain ⟨hf,lv,hat,hl⟩:=hel j t ht
     obtain ⟨hf',lv',hat',hl'⟩:=hel' j t' ht'
     obtain ⟨pe,ce,rfl⟩:=hl.slice
     obtain ⟨pe',ce',rfl⟩:=hl'.slice
     have hbw:Below B w wr:=HG.out.below.mono hB
     have hzw:=HG.out.size
     obtain ⟨e0,e1,e2,e3,e4⟩:=hat.below hbw hbB
     obtain ⟨f0,f1,f2,f3,f4⟩:=hat'.below hbw hbB'
     have hst:=Lib.hid (eqTs_step ht ht')
     have hi0:(0:Int)≤(j:Int):=by omega
     have hi1:(j:Int)<(n:Int):=by omega
     have hb0:b<wr.heap.size:=by omega
     have hb0':b'<wr.heap.size:=by omega
     obtain ⟨X,hX⟩:∃ X,eqT t t'=X:=⟨_,rfl⟩
     rw [hX] at hst
     have HC:Hid (∀ w',Grows wr w'→Calls Tryz.prog 22 #[.agg #[.int .i64 t.kind,.int .u64 t.num,.string t.text,.slice pe t.list.length ce,.int .i64 t.elem],.agg #[.int .i64 t'.kind,.int .u64 t'.num,.string t'.text,.slice pe' t'.list.length ce',.int .i64 t'.elem]] w' fun r w''=>r= .returned (.bool X)∧Grows w' w''):=fun w' h=>by
      have hb:Below B w w':=hbw.trans (h.below.mono (by omega))
      have:=peq_of HS.out B t.kind t.num t.text t.elem t.list (.slice pe t.list.length ce) t'.kind t'.num t'.text t'.elem t'.list (.slice pe' t'.list.length ce') w' (hl.below hb) (hl'.below hb) (by have:=h.size;omega)
      rwa [VT.eta,VT.eta,hX] at this
     clear hel hel' hat hat' hl hl' ht ht' hX
     cases X with
     |true=>
      have hst2:Hid (eqTs (l.drop (j+1)) (l'.drop (j+1))=eqTs l l'):=by
       show eqTs _ _=_;rw [←HQ.out,hst.out,Bool.true_and]
      clear hst
      go_wp2_with (go_at_call 22;refine (HC.out _ (((Grows.refl _).alloc _).alloc _)).mono ?_;rintro r w2 ⟨rfl,hg2⟩)
      go_roundw
      case rel=>exact ⟨j+1,by go_num,by omega,hst2.out,HG.out.trans ((((Grows.refl _).alloc _).alloc _).trans hg2)⟩
      case measure=>simp [intOf];omega
     |false=>
      have hst2:Hid (false=eqTs l l'):=by
       show false=_;rw [←HQ.out,hst.out,Bool.false_and]
      clear hst
      go_wp2_with (go_at_call 22;refine (HC.out _ (((Grows.refl _).alloc _).alloc _)).mono ?_;rintro r w2 ⟨rfl,hg2⟩)
      go_ret
      exact ⟨ret_bool hst2.out,HG.out.trans ((((Grows.refl _).alloc _).alloc _).trans hg2)⟩
    ·obtain rfl:j=n:=by omega
     go_wp2
     go_ret
     exact ⟨ret_bool (by rw [←HQ.out,←Hn.out,eqTs_end (by rw [Hn.out,Hn'.out])]),HG.out⟩
  ·have HE:=Lib.hid (eqTs_len hll)
   have hb:((l.length:Int)!=(l'.length:Int))=true:=by simp;omega
   have Hll:=Lib.hid hll
   clear hll
   go_enter Tryz.func48,Tryz.ntmps48
   go_wp2
   go_ret
   exact ⟨ret_bool HE.out.symm,Grows.refl _⟩
theorem pequal_any {N B:Nat} {t t':VT} {v v':Value} {w:World} (h:VAt B w N v t) (h':VAt B w N v' t') (hB:B≤w.heap.size):
 Calls Tryz.prog 22 #[v,v'] w fun r w'=>r= .returned (.bool (eqT t t'))∧Grows w w':=by
 obtain ⟨_,lv,rfl,hl⟩:=h
 obtain ⟨_,lv',rfl,hl'⟩:=h'
 have:=peq_of (eqfs N) B t.kind t.num t.text t.elem t.list lv t'.kind t'.num t'.text t'.elem t'.list lv' w hl hl' hB
 rwa [VT.eta,VT.eta] at this
end Go.Proofs.YtfjlnfogbfmpiaaGreatDoor.Va
