/-
  The texts L0 of this claim, one behind the other.
-/
import Derived.Test.YtfjlnfogbfmpiaaGreatDoorZPSB0
import Derived.Test.YtfjlnfogbfmpiaaGreatDoorZPSA0
import Derived.Laws.NewBlocks
namespace Go.Proofs.YtfjlnfogbfmpiaaGreatDoor.Va
open Go Go.RowKit Nu
set_option maxRecDepth 100000 in
theorem greatAll_any {N B:Nat} {l:List VT} {lv:Value} {w:World} (hl:LAt B w N lv l) (hB:B≤w.heap.size):
 Calls Tryz.prog 14 #[lv] w fun r w'=>r= .returned (.bool (decide (100000<wts l 0)))∧Below w.heap.size w w':=by
 have HL:=Lib.hid hl
 obtain ⟨p,c,rfl⟩:=hl.slice
 have hlen:l.length≤9223372036854775807:=hl.len
 clear hl
 obtain ⟨n,hn⟩:∃ n,l.length=n:=⟨_,rfl⟩
 have Hn:=Lib.hid hn
 rw [hn] at hlen ⊢
 clear hn
 go_enter Tryz.func14,Tryz.ntmps14
 go_wp2
 go_loopw [3,4] (fun v i wr=>∃ (j q:Nat),v= .int .i64 q∧i= .int .i64 j∧j≤n∧Hid (wts (l.drop j) q=wts l 0)∧Hid (Below w.heap.size w wr)) (fun _ i _=>n-(intOf i).toNat)
 case atStart=>exact ⟨0,0,rfl,rfl,Nat.zero_le _,rfl,Below.refl _ _⟩
 case round=>
  obtain ⟨j,q,rfl,rfl,hj,HQ,hb⟩:=hrel
  have hend:∀ (q':Nat),¬j<n∨100000<q→(q:Nat)=wts l 0:=fun _ h=>by
   have:=HQ.out
   rcases h with h|h
   ·obtain rfl:j=n:=by omega
    rw [←Hn.out,wts_end] at this;omega
   ·rw [wts_big _ h] at this;omega
  have hE:=Lib.hid hend;clear hend
  by_cases hlt:j<n
  ·have hlt':(j:Int)<(n:Int):=by omega
   by_cases hq:q≤100000
   ·cases N with
    |zero=>exact HL.out.elim
    |succ N=>
     rcases HL.out with ⟨h0,_⟩|⟨b,off,c',hp,hbB,_,hel⟩
     ·rw [←Hn.out,h0] at hlt;exact absurd hlt (by simp)
     rw [Hn.out] at hp
     cases hp
     obtain ⟨t,ht⟩:∃ t,l[j]? =some t:=⟨_,List.getElem?_eq_getElem (by rw [Hn.out];exact hlt)⟩
     obtain ⟨hf,lv,hat,hl⟩:=hel j t ht
     have hbw:Below B w wr:=hb.out.mono hB
     obtain ⟨e0,e1,e2,e3,e4⟩:=hat.below hbw hbB
     have hst:=Lib.hid (wts_step ht hq)
     have HC:Hid (Calls Tryz.prog 41 #[.agg #[.int .i64 t.kind,.int .u64 t.num,.string t.text,lv,.int .i64 t.elem],.int .i64 q] wr fun r w'=>r= .returned (.int .i64 (wt t q:Nat))∧Below wr.heap.size wr w'):=
      weigh_any (N:=N) (B:=B) (t:=t) (n:=q) ⟨hf,lv,rfl,hl.below hbw⟩ (by have:=hb.out.size;omega) hq
     clear hel hl hat ht
     go_wp2_with (go_at_call 41;refine HC.out.mono ?_;rintro r w2 ⟨rfl,hb2⟩)
     go_roundw
     case rel=>exact ⟨j+1,_,rfl,by go_num,by omega,by rw [←hst.out];exact HQ.out,hb.out.trans (hb2.mono hb.out.size)⟩
     case measure=>simp [intOf];omega
   ·have hq':¬((q:Int)≤100000):=by omega
    go_wp2
    go_ret
    refine ⟨ret_bool ?_,hb.out⟩
    rw [←hE.out q (.inr (by omega)),Bool.eq_iff_iff];simp<;>omega
  ·have hlt':¬((j:Int)<(n:Int)):=by omega
   go_wp2
   all_goals
    go_ret
    refine ⟨ret_bool ?_,hb.out⟩
    rw [←hE.out q (.inl hlt),Bool.eq_iff_iff];simp<;>omega
end Go.Proofs.YtfjlnfogbfmpiaaGreatDoor.Va
