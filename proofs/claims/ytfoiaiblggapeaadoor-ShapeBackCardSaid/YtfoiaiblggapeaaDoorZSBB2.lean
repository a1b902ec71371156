/-
  The texts U1 C1 O1 O2 O3 A1 of this claim, one behind the other.
-/
import Derived.Test.YtfoiaiblggapeaaDoorZSBB0
import Derived.Test.YtfoiaiblggapeaaDoorZSBA0
import Derived.WalkKit
import Derived.WalkSpells
import Derived.WalkLawsBesides
import Derived.Lib.Hide
import Derived.Deep.Light
import Derived.Laws.Shifts
import Derived.Laws.ShiftsVar
import Derived.IntWalk
set_option maxHeartbeats 40000000
set_option maxRecDepth 100000
namespace Go.Proofs.YtfoiaiblggapeaaDoor.Uc
open Go Go.RowKit Nu
def Tabs (w:World):Prop:=Lib.Utf8Tabs 2 3 w
theorem lt_of_cell {w:World} {b o:Nat} {v:Value} (h:w.cell? ⟨b,o,none⟩=some v):b<w.heap.size:=by
 rcases Nat.lt_or_ge b w.heap.size with h'|h'
 ·exact h'
 ·exfalso
  unfold World.cell? at h
  rw [show w.heap[b]? =none from Array.getElem?_eq_none h'] at h
  cases h
theorem Tabs.below {w w':World} (h:Tabs w) (hb:Below w.heap.size w w'):Tabs w':=
 ⟨fun c hc=>(hb.cell (p:=⟨_,c,none⟩) (lt_of_cell (h.1 c hc))).trans (h.1 c hc),
  fun i hi=>⟨(hb.cell (p:=⟨_,2*i,none⟩) (lt_of_cell (h.2 i hi).1)).trans (h.2 i hi).1,(hb.cell (p:=⟨_,2*i+1,none⟩) (lt_of_cell (h.2 i hi).2)).trans (h.2 i hi).2⟩⟩
theorem decode_any (s:ByteArray) (k:Nat) (w:World) (hT:Tabs w) (hk:k<s.size):
 Calls Tryd.prog 75 #[.string (s.extract k s.size)] w fun e w'=>e= .returned (.tuple #[.int .i32 (Utf8.decode s k).1,.int .i64 (Utf8.decode s k).2])∧Below w.heap.size w w':=by
 have h:=Any.utf8_DecodeRuneInString Tryd.dec197 (s.extract k s.size) w hT
 have e:Lib.decodeGo (s.extract k s.size)=Utf8.decode s k:=by
  unfold Lib.decodeGo
  have hz:(s.extract k s.size).size≠0:=by simp;omega
  rw [if_neg hz,decode_extract s k (by omega)]
 rw [e] at h
 exact h
theorem ret_int {k:IntKind} {a b:Int} (h:a=b):Ending.returned (.int k a)= .returned (.int k b):=by rw [h]
theorem utf8_any (s:ByteArray) (w:World) (hT:Tabs w) (hs:s.size≤9223372036854775807):
 Calls Tryd.prog 67 #[.string s] w fun e w'=>e= .returned (.int .i64 (utf s))∧Below w.heap.size w w':=by
 have HT:=Lib.hid hT;clear hT
 go_enter Tryd.func67,Tryd.ntmps67
 go_wp2
 go_loopw [3] (fun i wr=>∃ (k:Nat),i= .int .i64 k∧k≤s.size∧Hid (utfFrom s k=utf s)∧Below w.heap.size w wr) (fun i _=>s.size-(intOf i).toNat)
 case atStart=>exact ⟨0,rfl,Nat.zero_le _,rfl,Below.refl _ _⟩
 case round=>
  obtain ⟨k,rfl,hk,HQ,hb⟩:=hrel
  have HB:=Lib.hid hb
  by_cases hlt:k<s.size
  ·obtain ⟨hd1,hd2⟩:=decode_ch s k hlt
   have hD:=decode_any s k wr (HT.out.below hb) hlt
   have hfit:=ch_fit (s:=s) (k:=k)
   obtain ⟨c,hc⟩:∃ c,ch s k=c:=⟨_,rfl⟩
   rw [hc] at hd1 hd2 hfit
   obtain ⟨r,n,hrn⟩:∃ r n,Utf8.decode s k=(r,n):=⟨_,_,rfl⟩
   rw [hrn] at hd1 hd2 hD
   simp only at hd2 hD
   by_cases hz:c=0
   ·have e:=hd1 hz
    simp only [Prod.mk.injEq] at e
    obtain ⟨rfl,rfl⟩:=e
    have HE:Hid (utf s=k):=HQ.out.symm.trans (utf_bad hlt (by omega))
    clear hd1 hd2 hfit hc hrn hb
    go_wp2_with (go_at_call 75;refine hD.mono ?_;clear hD;rintro e w2 ⟨rfl,hb2⟩)
    go_ret
    exact ⟨ret_int HE.out.symm,HB.out.trans (hb2.mono HB.out.size)⟩
   ·obtain ⟨e,hne⟩:=hd2 hz
    subst e
    have hn1:1≤n:=by omega
    have hfit:=hfit hz
    have HN:=Lib.hid hne
    have HE:Hid (utfFrom s (k+n)=utf s):=by
     have:=utf_step hlt (by rw [hc];exact hz)
     rw [hc] at this
     exact this.symm.trans HQ.out
    clear hd1 hd2 hc hrn hb hne hz
    go_wp2_with (go_at_call 75;refine hD.mono ?_;clear hD;rintro e w2 ⟨rfl,hb2⟩)
    ·exfalso
     rename_i h1 h2
     exact HN.out ⟨by omega,by simp at h2;omega⟩
    all_goals
     go_roundw
     case rel=>exact ⟨k+n,by go_num,by omega,HE.out,HB.out.trans (hb2.mono HB.out.size)⟩
     case measure=>simp [intOf];omega
  ·obtain rfl:k=s.size:=by omega
   go_wp2
   go_ret
   exact ⟨ret_int (by rw [←HQ.out,utf_end hlt]),hb⟩
theorem ret_bool {a b:Bool} (h:a=b):Ending.returned (.bool a)= .returned (.bool b):=by rw [h]
theorem ret_bool3 {a b c a' b' c':Bool} (h:a=a') (k:b=b') (l:c=c'):Ending.returned (.tuple #[.bool a,.bool b,.bool c])= .returned (.tuple #[.bool a',.bool b',.bool c']):=by rw [h,k,l]
theorem has_any (k:Int) (w:World):Calls Tryd.prog 65 #[.int .i64 k] w fun e w'=>e= .returned (.tuple #[.bool (hasN k),.bool (hasT k),.bool (hasP k)])∧w'=w:=by
 go_enter Tryd.func65,Tryd.ntmps65
 go_wp2
 all_goals
  go_ret3
  exact ⟨ret_bool3 (by simp_all [hasN,hasT,hasP]) (by simp_all [hasT]) (by simp_all [hasP]),rfl⟩
theorem toList_nil {s:ByteArray}:s.toList=[]↔s=ByteArray.empty:=by
 rw [Lib.toList_data]
 constructor
 ·intro h
  have:s.size=0:=by rw [Lib.size_eq,h];rfl
  simpa using this
 ·intro h;rw [h];rfl
theorem extra_raw (k m:Int) (s:ByteArray) (p:Option Addr) (n c:Nat) (e:Int) (w:World) (hn:n≤9223372036854775807):
 Calls Tryd.prog 54 #[.agg #[.int .i64 k,.int .u64 m,.string s,.slice p n c,.int .i64 e]] w fun r w'=>r= .returned (.bool (extraT k m s e n))∧Below w.heap.size w w':=by
 obtain ⟨a,ha⟩:∃ a,hasN k=a:=⟨_,rfl⟩
 obtain ⟨b,hb⟩:∃ b,hasT k=b:=⟨_,rfl⟩
 obtain ⟨d,hd⟩:∃ d,hasP k=d:=⟨_,rfl⟩
 obtain ⟨R,hR⟩:∃ R,extraT k m s e n=R:=⟨_,rfl⟩
 rw [hR]
 have HR:Hid (R=((!a&&decide (m≠0))||((!b&&decide (s.size≠0))||((!d&&decide (0<n))||(decide (k≠23)&&decide (e≠0)))))):=by rw [←hR];unfold extraT;rw [ha,hb,hd];exact rfl
 have hh:=has_any k
 rw [ha,hb,hd] at hh
 have HH:=Lib.hid hh
 clear ha hb hd hR hh
 cases a<;>cases b<;>cases d
 all_goals
  go_enter Tryd.func54,Tryd.ntmps54
  go_wp2_with (go_at_call 65;refine (HH.out _).mono ?_;rintro r w2 ⟨rfl,rfl⟩)
  all_goals
   go_ret
   refine ⟨ret_bool ?_,(Below.refl _ _).alloc (Nat.le_refl _) _⟩
   rw [HR.out]
   clear HR HH
   go_light
   first
    |(simp_all;done)
    |(simp_all [toList_nil];done)
    |(by_cases hk:k=23<;>by_cases he:e=0<;>by_cases hz:n=0<;>simp_all [toList_nil]<;>omega)
theorem sgn8 (m:Int) (h0:0≤m) (h1:m≤18446744073709551615):(wrap64 m/128=0∨wrap64 m/128= -1)↔signed m 128=true:=by
 unfold signed wrap64
 simp only [Bool.or_eq_true,decide_eq_true_eq]
 omega
theorem within8 (m:Int) (w:World) (h0:0≤m) (h1:m≤18446744073709551615):Calls Tryd.prog 66 #[.int .u64 m,.int .i64 8] w fun r w'=>r= .returned (.bool (signed m 128))∧w'=w:=by
 have HS:=Lib.hid (sgn8 m h0 h1)
 go_enter Tryd.func66,Tryd.ntmps66
 go_wp2
 all_goals
  rename_i h
  go_ret
  refine ⟨ret_bool ?_,rfl⟩
  rw [Bool.eq_iff_iff,←HS.out]
  simp [h]
theorem sgn16 (m:Int) (h0:0≤m) (h1:m≤18446744073709551615):(wrap64 m/32768=0∨wrap64 m/32768= -1)↔signed m 32768=true:=by
 unfold signed wrap64
 simp only [Bool.or_eq_true,decide_eq_true_eq]
 omega
theorem within16 (m:Int) (w:World) (h0:0≤m) (h1:m≤18446744073709551615):Calls Tryd.prog 66 #[.int .u64 m,.int .i64 16] w fun r w'=>r= .returned (.bool (signed m 32768))∧w'=w:=by
 have HS:=Lib.hid (sgn16 m h0 h1)
 go_enter Tryd.func66,Tryd.ntmps66
 go_wp2
 all_goals
  rename_i h
  go_ret
  refine ⟨ret_bool ?_,rfl⟩
  rw [Bool.eq_iff_iff,←HS.out]
  simp [h]
theorem sgn32 (m:Int) (h0:0≤m) (h1:m≤18446744073709551615):(wrap64 m/2147483648=0∨wrap64 m/2147483648= -1)↔signed m 2147483648=true:=by
 unfold signed wrap64
 simp only [Bool.or_eq_true,decide_eq_true_eq]
 omega
theorem within32 (m:Int) (w:World) (h0:0≤m) (h1:m≤18446744073709551615):Calls Tryd.prog 66 #[.int .u64 m,.int .i64 32] w fun r w'=>r= .returned (.bool (signed m 2147483648))∧w'=w:=by
 have HS:=Lib.hid (sgn32 m h0 h1)
 go_enter Tryd.func66,Tryd.ntmps66
 go_wp2
 all_goals
  rename_i h
  go_ret
  refine ⟨ret_bool ?_,rfl⟩
  rw [Bool.eq_iff_iff,←HS.out]
  simp [h]
theorem num_raw (k m:Int) (s:ByteArray) (lv:Value) (e:Int) (w:World) (h0:0≤m) (h1:m≤18446744073709551615):
 Calls Tryd.prog 55 #[.agg #[.int .i64 k,.int .u64 m,.string s,lv,.int .i64 e]] w fun r w'=>r= .returned (.bool (numT k m))∧Below w.heap.size w w':=by
 have H8:=Lib.hid (fun w=>within8 m w h0 h1)
 have H16:=Lib.hid (fun w=>within16 m w h0 h1)
 have H32:=Lib.hid (fun w=>within32 m w h0 h1)
 go_enter Tryd.func55,Tryd.ntmps55
 go_wp2_with (first
  |(go_at_call 66;with_reducible refine (H8.out _).mono ?_;rintro r w2 ⟨rfl,rfl⟩)
  |(go_at_call 66;with_reducible refine (H16.out _).mono ?_;rintro r w2 ⟨rfl,rfl⟩)
  |(go_at_call 66;with_reducible refine (H32.out _).mono ?_;rintro r w2 ⟨rfl,rfl⟩))
 all_goals
  go_ret
  refine ⟨ret_bool ?_,(Below.refl _ _).alloc (Nat.le_refl _) _⟩
  clear H8 H16 H32
  go_light
  simp_all [numT]<;>omega
theorem ascii_any (s:ByteArray) (w:World) (hs:s.size≤9223372036854775807):
 Calls Tryd.prog 68 #[.string s] w fun e w'=>e= .returned (.int .i64 (asc s))∧w'=w:=by
 go_enter Tryd.func68,Tryd.ntmps68
 go_wp2
 go_loop [6] (fun i=>∃ (k:Nat),i= .int .i64 k∧k≤s.size∧Hid (ascFrom s k=asc s)) (fun i=>s.size-(intOf i).toNat)
 case atStart=>exact ⟨0,rfl,Nat.zero_le _,rfl⟩
 case round=>
  obtain ⟨k,rfl,hk,HQ⟩:=hrel
  by_cases hlt:k<s.size
  ·by_cases hc:128≤s[k].toNat
   ·have HE:Hid (asc s=k):=HQ.out.symm.trans (asc_hit hlt hc)
    have hci:(128:Int)≤(s[k].toNat:Int):=by omega
    clear hc
    go_wp2
    go_ret
    exact ⟨ret_int HE.out.symm,rfl⟩
   ·have HE:Hid (ascFrom s (k+1)=asc s):=(asc_step hlt hc).symm.trans HQ.out
    have hci:(s[k].toNat:Int)<128:=by omega
    clear hc
    go_wp2
    go_round
    case rel=>exact ⟨k+1,by go_num,by omega,HE.out⟩
    case measure=>simp [intOf];omega
  ·obtain rfl:k=s.size:=by omega
   go_wp2
   go_ret
   exact ⟨ret_int (by rw [←HQ.out,asc_end (Nat.le_refl _)]),rfl⟩
theorem text_raw (k m:Int) (s:ByteArray) (lv:Value) (e:Int) (w:World) (hT:Tabs w) (hs:s.size≤9223372036854775807):
 Calls Tryd.prog 56 #[.agg #[.int .i64 k,.int .u64 m,.string s,lv,.int .i64 e]] w fun r w'=>r= .returned (.bool (textT k s))∧Below w.heap.size w w':=by
 have HT:=Lib.hid hT;clear hT
 obtain ⟨W1,hW1⟩:∃ W1,w.alloc (.cells #[.int .i64 k,.int .u64 m,.string s,lv,.int .i64 e] 26)=W1:=⟨_,rfl⟩
 have HB:Hid (Below w.heap.size w W1):=by rw [←hW1];exact (Below.refl _ _).alloc (Nat.le_refl _) _
 have HU:=Lib.hid (utf8_any s W1 (HT.out.below HB.out) hs)
 have HA:=Lib.hid (ascii_any s W1 hs)
 rw [←hW1] at HU HA HB
 clear hW1
 go_enter Tryd.func56,Tryd.ntmps56
 go_wp2_with (first
  |(go_at_call 67;refine HU.out.mono ?_;rintro r w2 ⟨rfl,hb2⟩)
  |(go_at_call 68;refine HA.out.mono ?_;rintro r w2 ⟨rfl,rfl⟩))
 all_goals
  go_ret
  refine ⟨ret_bool ?_,by first|exact HB.out.trans (hb2.mono HB.out.size)|exact HB.out⟩
  clear HU HA HB HT
  go_light
  simp_all [textT]
 all_goals first
  |omega
  |(rw [Bool.eq_iff_iff];simp;omega)
end Go.Proofs.YtfoiaiblggapeaaDoor.Uc
namespace Go.Proofs.YtfoiaiblggapeaaDoor.Va
open Go Go.RowKit Nu
attribute [local go_sem ↓] Go.wp_at_zero Go.wp_at_succ
theorem nan_int (a:Int) (w:World):Calls Tryd.prog 97 #[.int .i64 a] w fun e w'=>e= .returned (.bool false)∧w'=w:=by
 go_enter Tryd.func97,Tryd.ntmps97
 go_wp2
 all_goals (go_ret;exact ⟨ret_bool (by simp),rfl⟩)
theorem nan_u64 (a:Int) (w:World):Calls Tryd.prog 98 #[.int .u64 a] w fun e w'=>e= .returned (.bool false)∧w'=w:=by
 go_enter Tryd.func98,Tryd.ntmps98
 go_wp2
 all_goals (go_ret;exact ⟨ret_bool (by simp),rfl⟩)
theorem cmp_int (a b:Int) (w:World):Calls Tryd.prog 79 #[.int .i64 a,.int .i64 b] w fun e w'=>e= .returned (.int .i64 (Lib.compareInt a b))∧w'=w:=by
 have hc:(a<b∧Lib.compareInt a b= -1)∨(¬a<b∧b<a∧Lib.compareInt a b=1)∨(¬a<b∧¬b<a∧Lib.compareInt a b=0):=by
  unfold Lib.compareInt;(repeat' split)<;>omega
 obtain ⟨R,hR⟩:∃ R,Lib.compareInt a b=R:=⟨_,rfl⟩
 rw [hR] at hc ⊢
 rcases hc with ⟨h1,rfl⟩|⟨h1,h2,rfl⟩|⟨h1,h2,rfl⟩
 all_goals
  clear hR
  go_enter Tryd.func79,Tryd.ntmps79
  go_wp2_with (go_at_call 97;refine (nan_int _ _).mono ?_;rintro e w' ⟨rfl,rfl⟩)
  go_ret
  exact ⟨rfl,rfl⟩
theorem cmp_u64 (a b:Int) (w:World):Calls Tryd.prog 80 #[.int .u64 a,.int .u64 b] w fun e w'=>e= .returned (.int .i64 (Lib.compareInt a b))∧w'=w:=by
 have hc:(a<b∧Lib.compareInt a b= -1)∨(¬a<b∧b<a∧Lib.compareInt a b=1)∨(¬a<b∧¬b<a∧Lib.compareInt a b=0):=by
  unfold Lib.compareInt;(repeat' split)<;>omega
 obtain ⟨R,hR⟩:∃ R,Lib.compareInt a b=R:=⟨_,rfl⟩
 rw [hR] at hc ⊢
 rcases hc with ⟨h1,rfl⟩|⟨h1,h2,rfl⟩|⟨h1,h2,rfl⟩
 all_goals
  clear hR
  go_enter Tryd.func80,Tryd.ntmps80
  go_wp2_with (go_at_call 98;refine (nan_u64 _ _).mono ?_;rintro e w' ⟨rfl,rfl⟩)
  go_ret
  exact ⟨rfl,rfl⟩
theorem cmp_str (a b:ByteArray) (w:World):Calls Tryd.prog 81 #[.string a,.string b] w fun e w'=>e= .returned (.int .i64 (Lib.compareBytes a.data.toList b.data.toList))∧w'=w:=
 Any.strings_Compare Tryd.cmp106 a b w
theorem ret_i {a b:Int} (h:a=b):Ending.returned (.int .i64 a)= .returned (.int .i64 b):=by rw [h]
theorem or3 (b:Nat) (a0 a1 a2:Int) (c:Nat) (w:World) (h0:w.cell? ⟨b,0,none⟩=some (.int .i64 a0)) (h1:w.cell? ⟨b,1,none⟩=some (.int .i64 a1)) (h2:w.cell? ⟨b,2,none⟩=some (.int .i64 a2)):
 Calls Tryd.prog 78 #[.slice (some ⟨b,0,none⟩) 3 c] w fun e w'=>e= .returned (.int .i64 (seq a0 (seq a1 a2)))∧w'=w:=by
 by_cases n0:a0=0
 ·by_cases n1:a1=0
  ·subst n0 n1
   by_cases n2:a2=0
   ·subst n2
    go_enter Tryd.func78,Tryd.ntmps78
    go_wp2
    refine wp_loop_rounds 4 ?_
    repeat (rw [rounds_succ];go_wp2)
    go_ret
    exact ⟨rfl,rfl⟩
   ·have H:=Lib.hid n2
    have hb:(a2 !=0)=true:=by simpa using n2
    clear n2
    go_enter Tryd.func78,Tryd.ntmps78
    go_wp2
    refine wp_loop_rounds 4 ?_
    repeat (rw [rounds_succ];go_wp2)
    go_ret
    exact ⟨rfl,rfl⟩
  ·subst n0
   have H:=Lib.hid n1
   have hb:(a1 !=0)=true:=by simpa using n1
   have hs:seq 0 (seq a1 a2)=a1:=by unfold seq;simp [n1]
   rw [hs]
   clear n1 hs
   go_enter Tryd.func78,Tryd.ntmps78
   go_wp2
   refine wp_loop_rounds 4 ?_
   repeat (rw [rounds_succ];go_wp2)
   go_ret
   exact ⟨rfl,rfl⟩
 ·have hb:(a0 !=0)=true:=by simpa using n0
  have hs:seq a0 (seq a1 a2)=a0:=by unfold seq;simp [n0]
  rw [hs]
  clear n0 hs
  go_enter Tryd.func78,Tryd.ntmps78
  go_wp2
  refine wp_loop_rounds 4 ?_
  repeat (rw [rounds_succ];go_wp2)
  go_ret
  exact ⟨rfl,rfl⟩
theorem or2 (b:Nat) (a0 a1:Int) (c:Nat) (w:World) (h0:w.cell? ⟨b,0,none⟩=some (.int .i64 a0)) (h1:w.cell? ⟨b,1,none⟩=some (.int .i64 a1)):
 Calls Tryd.prog 78 #[.slice (some ⟨b,0,none⟩) 2 c] w fun e w'=>e= .returned (.int .i64 (seq a0 a1))∧w'=w:=by
 by_cases n0:a0=0
 ·subst n0
  by_cases n2:a1=0
  ·subst n2
   go_enter Tryd.func78,Tryd.ntmps78
   go_wp2
   refine wp_loop_rounds 3 ?_
   repeat (rw [rounds_succ];go_wp2)
   go_ret
   exact ⟨rfl,rfl⟩
  ·have H:=Lib.hid n2
   have hb:(a1 !=0)=true:=by simpa using n2
   clear n2
   go_enter Tryd.func78,Tryd.ntmps78
   go_wp2
   refine wp_loop_rounds 3 ?_
   repeat (rw [rounds_succ];go_wp2)
   go_ret
   exact ⟨rfl,rfl⟩
 ·have hb:(a0 !=0)=true:=by simpa using n0
  have hs:seq a0 a1=a0:=by unfold seq;simp [n0]
  rw [hs]
  clear n0 hs
  go_enter Tryd.func78,Tryd.ntmps78
  go_wp2
  refine wp_loop_rounds 3 ?_
  repeat (rw [rounds_succ];go_wp2)
  go_ret
  exact ⟨rfl,rfl⟩
theorem new_row {W:World} {B:Nat} (h:W.heap.size=B) {cs:Array Value} {T:TypeId} (j:Nat) (u:Value) (hu:cs[j]? =some u):((W.alloc (.cells cs T)).drew).cell? ⟨B,j,none⟩=some u:=by
 have h1:(W.alloc (.cells cs T)).cell? ⟨W.heap.size,j,none⟩=some u:=by rw [World.cell?_alloc_new];exact hu
 rw [h] at h1
 exact ((Below.refl (B+1) (W.alloc (.cells cs T))).drew.cell (p:=⟨B,j,none⟩) (by simp)).trans h1
theorem new_cell (W:World) (cs:Array Value) (T:TypeId) (j:Nat) (u:Value) (hu:cs[j]? =some u):(W.alloc (.cells cs T)).cell? ⟨W.heap.size,j,none⟩=some u:=by
 rw [World.cell?_alloc_new];exact hu
abbrev ordFn:Value:= .func (.func 70) #[] #[]
def CmpS (N:Nat):Prop:=∀ (B:Nat) (lv lv':Value) (l l':List VT) (w:World),LAt B w N lv l→LAt B w N lv' l'→B≤w.heap.size→
    Calls Tryd.prog 82 #[lv,lv',ordFn] w fun e w'=>e= .returned (.int .i64 (ordTs l l'))∧Grows w w'
theorem order_of {N:Nat} (hS:CmpS N) (B:Nat) (k m:Int) (s:ByteArray) (e:Int) (l:List VT) (lv:Value) (k' m':Int) (s':ByteArray) (e':Int) (l':List VT) (lv':Value) (w:World) (hl:LAt B w N lv l) (hl':LAt B w N lv' l') (hB:B≤w.heap.size):
 Calls Tryd.prog 70 #[.agg #[.int .i64 k,.int .u64 m,.string s,lv,.int .i64 e],.agg #[.int .i64 k',.int .u64 m',.string s',lv',.int .i64 e']] w fun r w'=>r= .returned (.int .i64 (ordT (.mk k m s e l) (.mk k' m' s' e' l')))∧Grows w w':=by
 have HS:=Lib.hid hS
 have HL:=Lib.hid hl
 have HL':=Lib.hid hl'
 clear hS hl hl'
 obtain ⟨X0,hX0⟩:∃ X,Lib.compareInt k k'=X:=⟨_,rfl⟩
 obtain ⟨X1,hX1⟩:∃ X,Lib.compareInt m m'=X:=⟨_,rfl⟩
 obtain ⟨X2,hX2⟩:∃ X,Lib.compareBytes s.data.toList s'.data.toList=X:=⟨_,rfl⟩
 obtain ⟨X3,hX3⟩:∃ X,ordTs l l'=X:=⟨_,rfl⟩
 obtain ⟨X4,hX4⟩:∃ X,Lib.compareInt e e'=X:=⟨_,rfl⟩
 have hR:ordT (.mk k m s e l) (.mk k' m' s' e' l')=seq (seq X0 (seq X1 X2)) (seq X3 X4):=by
  rw [ordT,hX0,hX1,hX2,hX3,hX4]
 rw [hR]
 obtain ⟨R,hRR⟩:∃ R,seq (seq X0 (seq X1 X2)) (seq X3 X4)=R:=⟨_,rfl⟩
 rw [hRR]
 have HR:=Lib.hid hRR
 clear hRR
 have c0:=fun w=>cmp_int k k' w
 have c1:=fun w=>cmp_u64 m m' w
 have c2:=fun w=>cmp_str s s' w
 have c4:=fun w=>cmp_int e e' w
 rw [hX0] at c0
 rw [hX1] at c1
 rw [hX2] at c2
 rw [hX4] at c4
 have C0:=Lib.hid c0
 have C1:=Lib.hid c1
 have C2:=Lib.hid c2
 have C4:=Lib.hid c4
 have H3:=Lib.hid hX3
 clear c0 c1 c2 c4 hX0 hX1 hX2 hX3 hX4 hR
 go_enter Tryd.func70,Tryd.ntmps70
 go_wp2
 obtain ⟨W1,hW1⟩:∃ W1,(w.alloc (.cells #[.int .i64 k,.int .u64 m,.string s,lv,.int .i64 e] 26)).alloc (.cells #[.int .i64 k',.int .u64 m',.string s',lv',.int .i64 e'] 26)=W1:=⟨_,rfl⟩
 have hz1:W1.heap.size=w.heap.size+2:=by rw [←hW1];simp
 have hg1:Grows w W1:=by rw [←hW1];exact ((Grows.refl _).alloc _).alloc _
 have hc:∀ j u,([.int .i64 k,.int .u64 m,.string s,lv,.int .i64 e]:List Value)[j]? =some u→W1.cell? ⟨w.heap.size,j,none⟩=some u:=by
  intro j u hu
  have h1:((w.alloc (.cells #[.int .i64 k,.int .u64 m,.string s,lv,.int .i64 e] 26))).cell? ⟨w.heap.size,j,none⟩=some u:=by
   rw [World.cell?_alloc_new];simpa using hu
  rw [←hW1]
  exact (((Below.refl _ _).alloc (Nat.le_refl _) _).cell (p:=⟨w.heap.size,j,none⟩) (by simp)).trans h1
 have hc':∀ j u,([.int .i64 k',.int .u64 m',.string s',lv',.int .i64 e']:List Value)[j]? =some u→W1.cell? ⟨w.heap.size+1,j,none⟩=some u:=by
  intro j u hu
  have h1:=World.cell?_alloc_new (w.alloc (.cells #[.int .i64 k,.int .u64 m,.string s,lv,.int .i64 e] 26)) #[.int .i64 k',.int .u64 m',.string s',lv',.int .i64 e'] 26 j
  rw [show (w.alloc (.cells #[.int .i64 k,.int .u64 m,.string s,lv,.int .i64 e] 26)).heap.size=w.heap.size+1 by simp] at h1
  rw [←hW1,h1];simpa using hu
 rw [hW1]
 clear hW1
 have HALL:Hid (∀ w',Below W1.heap.size W1 w'→(Below W1.heap.size W1 w'∧w'.cell? ⟨w.heap.size,0,none⟩=some (.int .i64 k)∧w'.cell? ⟨w.heap.size,1,none⟩=some (.int .u64 m)∧w'.cell? ⟨w.heap.size,2,none⟩=some (.string s)∧w'.cell? ⟨w.heap.size+1,0,none⟩=some (.int .i64 k')∧w'.cell? ⟨w.heap.size+1,1,none⟩=some (.int .u64 m')∧w'.cell? ⟨w.heap.size+1,2,none⟩=some (.string s'))):=fun w' h=>
  have q:∀ b o,b<W1.heap.size→w'.cell? ⟨b,o,none⟩=W1.cell? ⟨b,o,none⟩:=fun b o hb=>h.cell (p:=⟨b,o,none⟩) hb
  ⟨h,(q _ _ (by omega)).trans (hc 0 _ rfl),(q _ _ (by omega)).trans (hc 1 _ rfl),(q _ _ (by omega)).trans (hc 2 _ rfl),(q _ _ (by omega)).trans (hc' 0 _ rfl),(q _ _ (by omega)).trans (hc' 1 _ rfl),(q _ _ (by omega)).trans (hc' 2 _ rfl)⟩
 have HALL2:Hid (∀ w',Below W1.heap.size W1 w'→(Below W1.heap.size W1 w'∧w'.cell? ⟨w.heap.size,3,none⟩=some lv∧w'.cell? ⟨w.heap.size,4,none⟩=some (.int .i64 e)∧w'.cell? ⟨w.heap.size+1,3,none⟩=some lv'∧w'.cell? ⟨w.heap.size+1,4,none⟩=some (.int .i64 e'))):=fun w' h=>
  have q:∀ b o,b<W1.heap.size→w'.cell? ⟨b,o,none⟩=W1.cell? ⟨b,o,none⟩:=fun b o hb=>h.cell (p:=⟨b,o,none⟩) hb
  ⟨h,(q _ _ (by omega)).trans (hc 3 _ rfl),(q _ _ (by omega)).trans (hc 4 _ rfl),(q _ _ (by omega)).trans (hc' 3 _ rfl),(q _ _ (by omega)).trans (hc' 4 _ rfl)⟩
 clear hc hc'
 obtain ⟨_,a0,a1,a2,b0,b1,b2⟩:=HALL.out W1 (Below.refl _ _)
 go_region_held3 (fun w'=>Below W1.heap.size W1 w'∧w'.cell? ⟨w.heap.size,0,none⟩=some (.int .i64 k)∧w'.cell? ⟨w.heap.size,1,none⟩=some (.int .u64 m)∧w'.cell? ⟨w.heap.size,2,none⟩=some (.string s)∧w'.cell? ⟨w.heap.size+1,0,none⟩=some (.int .i64 k')∧w'.cell? ⟨w.heap.size+1,1,none⟩=some (.int .u64 m')∧w'.cell? ⟨w.heap.size+1,2,none⟩=some (.string s'))
  (first
    |exact HALL.out _ (Below.refl _ _)
    |exact HALL.out _ (Below.refl _ _).drew
    |exact HALL.out _ ((Below.refl _ _).drew.alloc (by simp) _)
    |assumption)
  ((first
    |(go_at_call 79;refine (C0.out _).mono ?_;rintro r w2 ⟨rfl,rfl⟩)
    |(go_at_call 80;refine (C1.out _).mono ?_;rintro r w2 ⟨rfl,rfl⟩)
    |(go_at_call 81;refine (C2.out _).mono ?_;rintro r w2 ⟨rfl,rfl⟩)
    |(go_at_call 78;refine (or3 _ _ _ _ _ _ (new_row hz1 0 _ rfl) (new_row hz1 1 _ rfl) (new_row hz1 2 _ rfl)).mono ?_;rintro r w2 ⟨rfl,rfl⟩)))
 obtain ⟨W2,hW2⟩:∃ W2,(W1.alloc (.cells #[.int .i64 X0,.int .i64 X1,.int .i64 X2] 3)).drew=W2:=⟨_,rfl⟩
 have hg2:Grows W1 W2:=by rw [←hW2];exact ((Grows.refl _).alloc _).drew
 have hz2:W2.heap.size=w.heap.size+3:=by rw [←hW2];simp;omega
 obtain ⟨Y,hY⟩:∃ Y,seq X0 (seq X1 X2)=Y:=⟨_,rfl⟩
 have HRY:Hid (seq Y (seq X3 X4)=R):=by rw [←hY];exact HR.out
 rw [hW2,hY]
 clear HR hW2 hY a0 a1 a2 b0 b1 b2 C0 C1 C2
 by_cases hn:Y=0
 ·subst hn
  have hs:Hid (seq X3 X4=R):=by rw [←HRY.out];show seq X3 X4=seq 0 (seq X3 X4);unfold seq;simp
  clear HRY
  have HALL3:Hid (∀ w',Below W2.heap.size W2 w'→(Below W2.heap.size W2 w'∧w'.cell? ⟨w.heap.size,3,none⟩=some lv∧w'.cell? ⟨w.heap.size,4,none⟩=some (.int .i64 e)∧w'.cell? ⟨w.heap.size+1,3,none⟩=some lv'∧w'.cell? ⟨w.heap.size+1,4,none⟩=some (.int .i64 e'))):=fun w' h=>
   ⟨h,(HALL2.out w' (hg2.below.trans (h.mono hg2.size))).2⟩
  have HLA:Hid (∀ w',Below W2.heap.size W2 w'→LAt B w' N lv l∧LAt B w' N lv' l'∧B≤w'.heap.size):=fun w' h=>
   have hb:Below B w w':=((hg1.trans hg2).below.trans (h.mono (hg1.trans hg2).size)).mono hB
   ⟨HL.out.below hb,HL'.out.below hb,by have:=h.size;omega⟩
  clear HALL HALL2 HL HL'
  obtain ⟨_,a3,a4,b3,b4⟩:=HALL3.out W2 (Below.refl _ _)
  go_wp2
  go_region_held3 (fun w'=>Below W2.heap.size W2 w'∧w'.cell? ⟨w.heap.size,3,none⟩=some lv∧w'.cell? ⟨w.heap.size,4,none⟩=some (.int .i64 e)∧w'.cell? ⟨w.heap.size+1,3,none⟩=some lv'∧w'.cell? ⟨w.heap.size+1,4,none⟩=some (.int .i64 e'))
   (first
     |exact HALL3.out _ (Below.refl _ _)
     |exact HALL3.out _ (Below.refl _ _).drew
     |exact HALL3.out _ ((Below.refl _ _).drew.trans hg3.below)
     |exact HALL3.out _ (((Below.refl _ _).drew.trans hg3.below).alloc hsz3 _)
     |assumption)
   ((first
     |(go_at_call 79;refine (C4.out _).mono ?_;rintro r w2 ⟨rfl,rfl⟩)
     |(go_at_call 82;refine (HS.out B lv lv' l l' W2.drew (HLA.out _ (Below.refl _ _).drew).1 (HLA.out _ (Below.refl _ _).drew).2.1 (HLA.out _ (Below.refl _ _).drew).2.2).mono ?_;rintro r w3 ⟨hr,hg3⟩;rw [H3.out] at hr;subst hr;have hsz3:W2.heap.size≤w3.heap.size:=hg3.size)
     |(go_at_call 78;refine (or2 _ _ _ _ _ (new_cell _ _ _ 0 _ rfl) (new_cell _ _ _ 1 _ rfl)).mono ?_;rintro r w4 ⟨rfl,rfl⟩)))
  all_goals
   go_wp2
   go_ret
   exact ⟨ret_i hs.out,(hg1.trans hg2).trans ((((Grows.refl W2).drew).trans hg3).alloc _)⟩
 ·have hb:(Y !=0)=true:=by simpa using hn
  have hs:Hid (Y=R):=by rw [←HRY.out];show Y=seq Y (seq X3 X4);unfold seq;simp [hn]
  clear hn HRY HALL HALL2
  go_wp2
  go_ret
  exact ⟨ret_i hs.out,hg1.trans hg2⟩
theorem cmps:∀ N,CmpS N:=by
 intro N
 induction N with
 |zero=>intro B lv lv' l l' w h;exact h.elim
 |succ N ih=>
  intro B lv lv' l l' w hl hl' hB
  have HS:=Lib.hid ih
  have HL:=Lib.hid hl
  have HL':=Lib.hid hl'
  obtain ⟨p,c,rfl⟩:=hl.slice
  obtain ⟨p',c',rfl⟩:=hl'.slice
  have hlen:l.length≤9223372036854775807:=hl.len
  have hlen':l'.length≤9223372036854775807:=hl'.len
  clear hl hl' ih
  obtain ⟨n,hn⟩:∃ n,l.length=n:=⟨_,rfl⟩
  obtain ⟨n',hn'⟩:∃ n,l'.length=n:=⟨_,rfl⟩
  have Hn:=Lib.hid hn
  have Hn':=Lib.hid hn'
  rw [hn] at hlen HL ⊢
  rw [hn'] at hlen' HL' ⊢
  clear hn hn'
  go_enter Tryd.func82,Tryd.ntmps82
  go_wp2
  go_loopw [13] (fun i wr=>∃ (j:Nat),i= .int .i64 j∧j≤n∧j≤n'∧Hid (ordTs (l.drop j) (l'.drop j)=ordTs l l')∧Grows w wr) (fun i _=>n-(intOf i).toNat)
  case atStart=>exact ⟨0,rfl,Nat.zero_le _,Nat.zero_le _,rfl,Grows.refl _⟩
  case round=>
   obtain ⟨j,rfl,hj,hj',HQ,hg⟩:=hrel
   have HG:=Lib.hid hg
   clear hg
   by_cases hlt:j<n
   ·rcases HL.out with ⟨h0,_⟩|⟨b,off,c0,hp,hbB,_,hel⟩
    ·rw [←Hn.out,h0] at hlt;exact absurd hlt (by simp)
    obtain ⟨t,ht⟩:∃ t,l[j]? =some t:=⟨_,List.getElem?_eq_getElem (by rw [Hn.out];exact hlt)⟩
    obtain ⟨hf,lv,hat,hl⟩:=hel j t ht
    obtain ⟨pe,ce,rfl⟩:=hl.slice
    have hbw:Below B w wr:=HG.out.below.mono hB
    have hzw:=HG.out.size
    obtain ⟨e0,e1,e2,e3,e4⟩:=hat.below hbw hbB
    rw [Hn.out] at hp
    cases hp
    by_cases hlt':j<n'
    ·rcases HL'.out with ⟨h0,_⟩|⟨b',off',c0',hp',hbB',_,hel'⟩
     ·rw [←Hn'.out,h0] at hlt';exact absurd hlt' (by simp)
     rw [Hn'.out] at hp'
     cases hp'
     obtain ⟨t',ht'⟩:∃ t,l'[j]? =some t:=⟨_,List.getElem?_eq_getElem (by rw [Hn'.out];exact hlt')⟩
     obtain ⟨hf',lv',hat',hl'⟩:=hel' j t' ht'
     obtain ⟨pe',ce',rfl⟩:=hl'.slice
     obtain ⟨f0,f1,f2,f3,f4⟩:=hat'.below hbw hbB'
     have HLA:Hid (∀ w',Below wr.heap.size wr w'→LAt B w' N (.slice pe t.list.length ce) t.list∧LAt B w' N (.slice pe' t'.list.length ce') t'.list∧B≤w'.heap.size):=fun w' h=>
      have hb:Below B w w':=hbw.trans (h.mono (by omega))
      ⟨hl.below hb,hl'.below hb,by have:=h.size;omega⟩
     have hst:=Lib.hid (ordTs_step ht ht')
     have hi0:(0:Int)≤(j:Int):=by omega
     have hi1:(j:Int)<(n:Int):=by omega
     have hi2:(j:Int)<(n':Int):=by omega
     have hb0:b<wr.heap.size:=by omega
     have hb0':b'<wr.heap.size:=by omega
     obtain ⟨X,hX⟩:∃ X,ordT t t'=X:=⟨_,rfl⟩
     rw [hX] at hst
     have HX:=Lib.hid hX
     clear hel hel' hat hat' hl hl' ht ht' hX
     have HC:Hid (∀ w',Grows wr w'→Calls Tryd.prog 70 #[.agg #[.int .i64 t.kind,.int .u64 t.num,.string t.text,.slice pe t.list.length ce,.int .i64 t.elem],.agg #[.int .i64 t'.kind,.int .u64 t'.num,.string t'.text,.slice pe' t'.list.length ce',.int .i64 t'.elem]] w' fun r w''=>r= .returned (.int .i64 X)∧Grows w' w''):=fun w' h=>by
      have hh:=HLA.out w' h.below
      have:=order_of HS.out B t.kind t.num t.text t.elem t.list (.slice pe t.list.length ce) t'.kind t'.num t'.text t'.elem t'.list (.slice pe' t'.list.length ce') w' hh.1 hh.2.1 hh.2.2
      rwa [VT.eta,VT.eta,HX.out] at this
     clear HLA
     by_cases hn:X=0
     ·subst hn
      have hst2:Hid (ordTs (l.drop (j+1)) (l'.drop (j+1))=ordTs l l'):=by
       show ordTs _ _=_;rw [←HQ.out,hst.out,seq_0]
      clear hst
      go_wp2_with (go_at_call 70;refine (HC.out _ (((Grows.refl _).alloc _).alloc _)).mono ?_;rintro r w2 ⟨rfl,hg2⟩)
      go_roundw
      case rel=>exact ⟨j+1,by go_num,by omega,by omega,hst2.out,HG.out.trans ((((Grows.refl _).alloc _).alloc _).trans hg2)⟩
      case measure=>simp [intOf];omega
     ·have hb:(X !=0)=true:=by simpa using hn
      have hst2:Hid (X=ordTs l l'):=by
       show X=_;rw [←HQ.out,hst.out,seq_ne hn]
      clear hst hn
      go_wp2_with (go_at_call 70;refine (HC.out _ (((Grows.refl _).alloc _).alloc _)).mono ?_;rintro r w2 ⟨rfl,hg2⟩)
      go_ret
      exact ⟨ret_i hst2.out,HG.out.trans ((((Grows.refl _).alloc _).alloc _).trans hg2)⟩
    ·have HE:Hid (1=ordTs l l'):=by
      show 1=_;rw [←HQ.out,ordTs_over (by rw [Hn.out];exact hlt) (by rw [Hn'.out];omega)]
     have hi0:(0:Int)≤(j:Int):=by omega
     have hi1:(j:Int)<(n:Int):=by omega
     clear hel hat hl ht
     go_wp2
     go_ret
     exact ⟨ret_i HE.out,HG.out.trans ((Grows.refl _).alloc _)⟩
   ·obtain rfl:j=n:=by omega
    have HE:Hid ((if j<n' then -1 else 0)=ordTs l l'):=by
     show _=_;rw [←HQ.out,ordTs_end (by rw [Hn.out];exact Nat.le_refl _),Hn'.out]
    by_cases hlt':j<n'
    ·have HE2:Hid (-1=ordTs l l'):=by show -1=_;rw [←HE.out,if_pos hlt']
     go_wp2
     go_ret
     exact ⟨ret_i HE2.out,HG.out⟩
    ·have HE2:Hid (0=ordTs l l'):=by show 0=_;rw [←HE.out,if_neg hlt']
     go_wp2
     go_ret
     exact ⟨ret_i HE2.out,HG.out⟩
theorem order_any {N B:Nat} {t t':VT} {v v':Value} {w:World} (h:VAt B w N v t) (h':VAt B w N v' t') (hB:B≤w.heap.size):
 Calls Tryd.prog 70 #[v,v'] w fun r w'=>r= .returned (.int .i64 (ordT t t'))∧Grows w w':=by
 obtain ⟨_,lv,rfl,hl⟩:=h
 obtain ⟨_,lv',rfl,hl'⟩:=h'
 have:=order_of (cmps N) B t.kind t.num t.text t.elem t.list lv t'.kind t'.num t'.text t'.elem t'.list lv' w hl hl' hB
 rwa [VT.eta,VT.eta] at this
end Go.Proofs.YtfoiaiblggapeaaDoor.Va
namespace Go.Proofs.YtfoiaiblggapeaaDoor.Va
open Go Go.RowKit Nu
abbrev eqFn:Value:= .func (.func 41) #[] #[]
def EqS (N:Nat):Prop:=∀ (B:Nat) (lv lv':Value) (l l':List VT) (w:World),LAt B w N lv l→LAt B w N lv' l'→B≤w.heap.size→
    Calls Tryd.prog 62 #[lv,lv',eqFn] w fun e w'=>e= .returned (.bool (eqTs l l'))∧Grows w w'
theorem peq_of {N:Nat} (hS:EqS N) (B:Nat) (k m:Int) (s:ByteArray) (e:Int) (l:List VT) (lv:Value) (k' m':Int) (s':ByteArray) (e':Int) (l':List VT) (lv':Value) (w:World) (hl:LAt B w N lv l) (hl':LAt B w N lv' l') (hB:B≤w.heap.size):
 Calls Tryd.prog 41 #[.agg #[.int .i64 k,.int .u64 m,.string s,lv,.int .i64 e],.agg #[.int .i64 k',.int .u64 m',.string s',lv',.int .i64 e']] w fun r w'=>r= .returned (.bool (eqT (.mk k m s e l) (.mk k' m' s' e' l')))∧Grows w w':=by
 have HLA:Hid (∀ w',Grows w w'→LAt B w' N lv l∧LAt B w' N lv' l'∧B≤w'.heap.size):=fun w' h=>
  have hb:Below B w w':=h.below.mono hB
  ⟨hl.below hb,hl'.below hb,by have:=h.size;omega⟩
 have HS:=Lib.hid hS
 clear hl hl' hS
 have HE:=Lib.hid (eqT_mk (.mk k m s e l) (.mk k' m' s' e' l'))
 obtain ⟨R,hR⟩:∃ R,eqT (.mk k m s e l) (.mk k' m' s' e' l')=R:=⟨_,rfl⟩
 rw [hR] at HE ⊢
 clear hR
 by_cases hh:k=k'∧m=m'∧s=s'∧e=e'
 ·obtain ⟨rfl,rfl,rfl,rfl⟩:=hh
  have HE2:Hid (eqTs l l'=R):=by show eqTs l l'=R;rw [HE.out];simp [VT.kind,VT.num,VT.text,VT.elem,VT.list]
  clear HE
  go_enter Tryd.func41,Tryd.ntmps41
  go_wp2_with (go_at_call 62;refine (HS.out B lv lv' l l' _ (HLA.out _ (((Grows.refl _).alloc _).alloc _)).1 (HLA.out _ (((Grows.refl _).alloc _).alloc _)).2.1 (HLA.out _ (((Grows.refl _).alloc _).alloc _)).2.2).mono ?_;rintro r w2 ⟨hr,hg2⟩;rw [HE2.out] at hr;subst hr)
  go_ret
  exact ⟨rfl,(((Grows.refl _).alloc _).alloc _).trans hg2⟩
 ·have HN:=Lib.hid hh
  have HE2:Hid (R=false):=by
   show R=false
   rw [HE.out]
   by_cases h1:k=k'<;>by_cases h2:m=m'<;>by_cases h4:e=e'<;>simp_all [VT.kind,VT.num,VT.text,VT.elem,VT.list]
   exact fun h=>absurd (toList_inj h) hh
  clear hh HE
  go_enter Tryd.func41,Tryd.ntmps41
  go_wp2_with (go_at_call 62;exfalso;exact HN.out ⟨by assumption,by assumption,toList_inj (by assumption),by assumption⟩)
  all_goals
   go_ret
   exact ⟨ret_bool HE2.out.symm,((Grows.refl _).alloc _).alloc _⟩
theorem eqfs:∀ N,EqS N:=by
 intro N
 induction N with
 |zero=>intro B lv lv' l l' w h;exact h.elim
 |succ N ih=>
  intro B lv lv' l l' w hl hl' hB
  have HS:=Lib.hid ih
  have HL:=Lib.hid hl
  have HL':=Lib.hid hl'
  obtain ⟨p,c,rfl⟩:=hl.slice
  obtain ⟨p',c',rfl⟩:=hl'.slice
  have hlen:l.length≤9223372036854775807:=hl.len
  have hlen':l'.length≤9223372036854775807:=hl'.len
  clear hl hl' ih
  by_cases hll:l.length=l'.length
  ·obtain ⟨n,hn⟩:∃ n,l.length=n:=⟨_,rfl⟩
   have hn':l'.length=n:=by omega
   have Hn:=Lib.hid hn
   have Hn':=Lib.hid hn'
   rw [hn] at hlen HL ⊢
   rw [hn'] at HL' ⊢
   clear hn hn' hll hlen'
   go_enter Tryd.func62,Tryd.ntmps62
   go_wp2
   go_loopw [17] (fun i wr=>∃ (j:Nat),i= .int .i64 j∧j≤n∧Hid (eqTs (l.drop j) (l'.drop j)=eqTs l l')∧Grows w wr) (fun i _=>n-(intOf i).toNat)
   case atStart=>exact ⟨0,rfl,Nat.zero_le _,rfl,Grows.refl _⟩
   case round=>
    obtain ⟨j,rfl,hj,HQ,hg⟩:=hrel
    have HG:=Lib.hid hg
    clear hg
    by_cases hlt:j<n
    ·rcases HL.out with ⟨h0,_⟩|⟨b,off,c0,hp,hbB,_,hel⟩
     ·rw [←Hn.out,h0] at hlt;exact absurd hlt (by simp)
     rcases HL'.out with ⟨h0,_⟩|⟨b',off',c0',hp',hbB',_,hel'⟩
     ·rw [←Hn'.out,h0] at hlt;exact absurd hlt (by simp)
     rw [Hn.out] at hp
     rw [Hn'.out] at hp'
     cases hp
     cases hp'
     obtain ⟨t,ht⟩:∃ t,l[j]? =some t:=⟨_,List.getElem?_eq_getElem (by rw [Hn.out];exact hlt)⟩
     obtain ⟨t',ht'⟩:∃ t,l'[j]? =some t:=⟨_,List.getElem?_eq_getElem (by rw [Hn'.out];exact hlt)⟩
     obtain ⟨hf,lv,hat,hl⟩:=hel j t ht
     obtain ⟨hf',lv',hat',hl'⟩:=hel' j t' ht'
     obtain ⟨pe,ce,rfl⟩:=hl.slice
     obtain ⟨pe',ce',rfl⟩:=hl'.slice
     have hbw:Below B w wr:=HG.out.below.mono hB
     have hzw:=HG.out.size
     obtain ⟨e0,e1,e2,e3,e4⟩:=hat.below hbw hbB
     obtain ⟨f0,f1,f2,f3,f4⟩:=hat'.below hbw hbB'
     have hst:=Lib.hid (eqTs_step ht ht')
     have hi0:(0:Int)≤(j:Int):=by omega
     have hi1:(j:Int)<(n:Int):=by omega
     have hb0:b<wr.heap.size:=by omega
     have hb0':b'<wr.heap.size:=by omega
     obtain ⟨X,hX⟩:∃ X,eqT t t'=X:=⟨_,rfl⟩
     rw [hX] at hst
     have HC:Hid (∀ w',Grows wr w'→Calls Tryd.prog 41 #[.agg #[.int .i64 t.kind,.int .u64 t.num,.string t.text,.slice pe t.list.length ce,.int .i64 t.elem],.agg #[.int .i64 t'.kind,.int .u64 t'.num,.string t'.text,.slice pe' t'.list.length ce',.int .i64 t'.elem]] w' fun r w''=>r= .returned (.bool X)∧Grows w' w''):=fun w' h=>by
      have hb:Below B w w':=hbw.trans (h.below.mono (by omega))
      have:=peq_of HS.out B t.kind t.num t.text t.elem t.list (.slice pe t.list.length ce) t'.kind t'.num t'.text t'.elem t'.list (.slice pe' t'.list.length ce') w' (hl.below hb) (hl'.below hb) (by have:=h.size;omega)
      rwa [VT.eta,VT.eta,hX] at this
     clear hel hel' hat hat' hl hl' ht ht' hX
     cases X with
     |true=>
      have hst2:Hid (eqTs (l.drop (j+1)) (l'.drop (j+1))=eqTs l l'):=by
       show eqTs _ _=_;rw [←HQ.out,hst.out,Bool.true_and]
      clear hst
      go_wp2_with (go_at_call 41;refine (HC.out _ (((Grows.refl _).alloc _).alloc _)).mono ?_;rintro r w2 ⟨rfl,hg2⟩)
      go_roundw
      case rel=>exact ⟨j+1,by go_num,by omega,hst2.out,HG.out.trans ((((Grows.refl _).alloc _).alloc _).trans hg2)⟩
      case measure=>simp [intOf];omega
     |false=>
      have hst2:Hid (false=eqTs l l'):=by
       show false=_;rw [←HQ.out,hst.out,Bool.false_and]
      clear hst
      go_wp2_with (go_at_call 41;refine (HC.out _ (((Grows.refl _).alloc _).alloc _)).mono ?_;rintro r w2 ⟨rfl,hg2⟩)
      go_ret
      exact ⟨ret_bool hst2.out,HG.out.trans ((((Grows.refl _).alloc _).alloc _).trans hg2)⟩
    ·obtain rfl:j=n:=by omega
     go_wp2
     go_ret
     exact ⟨ret_bool (by rw [←HQ.out,←Hn.out,eqTs_end (by rw [Hn.out,Hn'.out])]),HG.out⟩
  ·have HE:=Lib.hid (eqTs_len hll)
   have hb:((l.length:Int)!=(l'.length:Int))=true:=by simp;omega
   have Hll:=Lib.hid hll
   clear hll
   go_enter Tryd.func62,Tryd.ntmps62
   go_wp2
   go_ret
   exact ⟨ret_bool HE.out.symm,Grows.refl _⟩
theorem pequal_any {N B:Nat} {t t':VT} {v v':Value} {w:World} (h:VAt B w N v t) (h':VAt B w N v' t') (hB:B≤w.heap.size):
 Calls Tryd.prog 41 #[v,v'] w fun r w'=>r= .returned (.bool (eqT t t'))∧Grows w w':=by
 obtain ⟨_,lv,rfl,hl⟩:=h
 obtain ⟨_,lv',rfl,hl'⟩:=h'
 have:=peq_of (eqfs N) B t.kind t.num t.text t.elem t.list lv t'.kind t'.num t'.text t'.elem t'.list lv' w hl hl' hB
 rwa [VT.eta,VT.eta] at this
def otherK (l:List VT) (el:Int):Option Nat:=l.findIdx? fun t=>decide (t.kind≠el)
def otherI (l:List VT) (el:Int):Int:=match otherK l el with|some j=>(j:Int)|none=> -1
theorem otherI_hit {l:List VT} {el:Int} {j:Nat} {t:VT} (ht:l[j]? =some t) (hk:t.kind≠el) (hlo:∀ i u,i<j→l[i]? =some u→u.kind=el):otherI l el=j:=by
 unfold otherI otherK
 have:l.findIdx? (fun t=>decide (t.kind≠el))=some j:=by
  rw [List.findIdx?_eq_some_iff_getElem]
  obtain ⟨hj,hg⟩:=List.getElem?_eq_some_iff.1 ht
  refine ⟨hj,by rw [hg];simpa using hk,fun i hi=>?_⟩
  have:=hlo i l[i] hi (List.getElem?_eq_getElem (by omega))
  simpa using this
 rw [this]
theorem otherI_none {l:List VT} {el:Int} (hlo:∀ i u,i<l.length→l[i]? =some u→u.kind=el):otherI l el= -1:=by
 unfold otherI otherK
 have:l.findIdx? (fun t=>decide (t.kind≠el))=none:=by
  rw [List.findIdx?_eq_none_iff]
  intro x hx
  obtain ⟨i,hi,rfl⟩:=List.getElem_of_mem hx
  have:=hlo i l[i] hi (List.getElem?_eq_getElem hi)
  simpa using this
 rw [this]
theorem otherI_all (l:List VT) (el:Int):decide (0≤otherI l el)= !(l.all fun t=>decide (t.kind=el)):=by
 by_cases h:l.all (fun t=>decide (t.kind=el))=true
 ·rw [h,otherI_none fun i u hi hu=>by simpa using List.all_eq_true.1 h u (List.mem_of_getElem? hu)]
  decide
 ·have h':l.all (fun t=>decide (t.kind=el))=false:=by simpa using h
  rw [h']
  unfold otherI otherK
  cases hf:l.findIdx? (fun t=>decide (t.kind≠el)) with
  |none=>
   exfalso
   apply h
   rw [List.findIdx?_eq_none_iff] at hf
   rw [List.all_eq_true]
   intro x hx
   have:=hf x hx
   simpa using this
  |some j=>simp
abbrev othFn (bx:Nat):Value:= .func (.func 72) #[] #[.pointer (some ⟨bx,0,none⟩)]
theorem oth_any (k m:Int) (s:ByteArray) (lv:Value) (e el:Int) (bx:Nat) (w:World) (hc:w.cell? ⟨bx,4,none⟩=some (.int .i64 el)) (hb:bx<w.heap.size):
 Calls Tryd.prog 72 #[.agg #[.int .i64 k,.int .u64 m,.string s,lv,.int .i64 e],.pointer (some ⟨bx,0,none⟩)] w fun r w'=>r= .returned (.bool (decide (k≠el)))∧Grows w w':=by
 go_enter Tryd.func72,Tryd.ntmps72
 go_wp2
 go_ret
 refine ⟨ret_bool ?_,(Grows.refl _).alloc _⟩
 rw [Bool.eq_iff_iff];simp
theorem index_any {N B:Nat} {lv:Value} {l:List VT} (el:Int) (bx:Nat) (w:World) (hl:LAt B w N lv l) (hB:B≤w.heap.size) (hc:w.cell? ⟨bx,4,none⟩=some (.int .i64 el)) (hb:bx<w.heap.size):
 Calls Tryd.prog 83 #[lv,othFn bx] w fun r w'=>r= .returned (.int .i64 (otherI l el))∧Grows w w':=by
 have HL:=Lib.hid hl
 obtain ⟨p,c,rfl⟩:=hl.slice
 have hlen:l.length≤9223372036854775807:=hl.len
 clear hl
 obtain ⟨n,hn⟩:∃ n,l.length=n:=⟨_,rfl⟩
 have Hn:=Lib.hid hn
 rw [hn] at hlen HL ⊢
 clear hn
 go_enter Tryd.func83,Tryd.ntmps83
 go_wp2
 go_loopw [8] (fun i wr=>∃ (j:Nat),i= .int .i64 j∧j≤n∧Hid (∀ i u,i<j→l[i]? =some u→u.kind=el)∧Grows w wr) (fun i _=>n-(intOf i).toNat)
 case atStart=>exact ⟨0,rfl,Nat.zero_le _,fun i u h=>by omega,Grows.refl _⟩
 case round=>
  obtain ⟨j,rfl,hj,HQ,hg⟩:=hrel
  have HG:=Lib.hid hg
  have hcw:wr.cell? ⟨bx,4,none⟩=some (.int .i64 el):=(hg.below.cell (p:=⟨bx,4,none⟩) hb).trans hc
  have hbw:=hg.below.mono hB
  have hzw:=hg.size
  clear hg
  by_cases hlt:j<n
  ·cases N with
   |zero=>exact HL.out.elim
   |succ N=>
    rcases HL.out with ⟨h0,_⟩|⟨b,off,c0,hp,hbB,_,hel⟩
    ·rw [←Hn.out,h0] at hlt;exact absurd hlt (by simp)
    rw [Hn.out] at hp
    cases hp
    obtain ⟨t,ht⟩:∃ t,l[j]? =some t:=⟨_,List.getElem?_eq_getElem (by rw [Hn.out];exact hlt)⟩
    obtain ⟨hf,lv,hat,hl⟩:=hel j t ht
    obtain ⟨e0,e1,e2,e3,e4⟩:=hat.below hbw hbB
    have hi0:(0:Int)≤(j:Int):=by omega
    have hi1:(j:Int)<(n:Int):=by omega
    have HT:=Lib.hid ht
    clear hel hat hl ht
    by_cases hk:t.kind=el
    ·have hd:decide (t.kind≠el)=false:=by simp [hk]
     have HK:=Lib.hid hk
     have HC:=Lib.hid (oth_any t.kind t.num t.text lv t.elem el bx wr hcw (by omega))
     rw [hd] at HC
     clear hk hd
     go_wp2_with (go_at_call 72;refine HC.out.mono ?_;rintro r w2 ⟨rfl,hg2⟩)
     go_roundw
     case rel=>exact ⟨j+1,by go_num,by omega,fun i u hi hu=>by
      by_cases h:i=j
      ·rw [h,HT.out] at hu;cases hu;exact HK.out
      ·exact HQ.out i u (by omega) hu,HG.out.trans hg2⟩
     case measure=>simp [intOf];omega
    ·have hd:decide (t.kind≠el)=true:=by simp [hk]
     have HI:=Lib.hid (otherI_hit HT.out hk HQ.out)
     have HC:=Lib.hid (oth_any t.kind t.num t.text lv t.elem el bx wr hcw (by omega))
     rw [hd] at HC
     clear hk hd
     go_wp2_with (go_at_call 72;refine HC.out.mono ?_;rintro r w2 ⟨rfl,hg2⟩)
     go_ret
     exact ⟨ret_i HI.out.symm,HG.out.trans hg2⟩
  ·obtain rfl:j=n:=by omega
   go_wp2
   go_ret
   exact ⟨ret_i (otherI_none fun i u hi hu=>HQ.out i u (by rw [←Hn.out];exact hi) hu).symm,HG.out⟩
theorem contains_any {N B:Nat} {lv:Value} {l:List VT} (el:Int) (bx:Nat) (w:World) (hl:LAt B w N lv l) (hB:B≤w.heap.size) (hc:w.cell? ⟨bx,4,none⟩=some (.int .i64 el)) (hb:bx<w.heap.size):
 Calls Tryd.prog 71 #[lv,othFn bx] w fun r w'=>r= .returned (.bool (!(l.all fun t=>decide (t.kind=el))))∧Grows w w':=by
 have HC:=Lib.hid (index_any el bx w hl hB hc hb)
 have HA:=Lib.hid (otherI_all l el)
 obtain ⟨R,hR⟩:∃ R,(!(l.all fun t=>decide (t.kind=el)))=R:=⟨_,rfl⟩
 obtain ⟨p,c,rfl⟩:=hl.slice
 rw [hR] at HA ⊢
 obtain ⟨I,hI⟩:∃ I,otherI l el=I:=⟨_,rfl⟩
 rw [hI] at HA HC
 clear hl hR hI
 go_enter Tryd.func71,Tryd.ntmps71
 go_wp2_with (go_at_call 83;refine HC.out.mono ?_;rintro r w2 ⟨rfl,hg2⟩)
 go_ret
 exact ⟨ret_bool HA.out,hg2⟩
theorem array_raw {N B:Nat} (k m:Int) (s:ByteArray) (lv:Value) (e:Int) (l:List VT) (w:World) (hl:LAt B w N lv l) (hB:B≤w.heap.size):
 Calls Tryd.prog 58 #[.agg #[.int .i64 k,.int .u64 m,.string s,lv,.int .i64 e]] w fun r w'=>r= .returned (.bool (arrT e l))∧Grows w w':=by
 obtain ⟨p,c,rfl⟩:=hl.slice
 have HL:=Lib.hid hl
 clear hl
 by_cases he:0<e∧e<24
 ·obtain ⟨h0,h1⟩:=he
  obtain ⟨W1,hW1⟩:∃ W1,w.alloc (.cells #[.int .i64 k,.int .u64 m,.string s,.slice p l.length c,.int .i64 e] 26)=W1:=⟨_,rfl⟩
  have hg1:Grows w W1:=by rw [←hW1];exact (Grows.refl _).alloc _
  have HC:=Lib.hid (contains_any e w.heap.size W1 (HL.out.below (hg1.below.mono hB)) (by have:=hg1.size;omega) (by rw [←hW1];simp) (by rw [←hW1];simp))
  rw [←hW1] at HC hg1
  have HG:=Lib.hid hg1
  clear hW1 hg1
  have HR:Hid (arrT e l=l.all fun t=>decide (t.kind=e)):=by show arrT e l=_;simp [arrT,h0,h1]
  obtain ⟨R,hR⟩:∃ R,(l.all fun t=>decide (t.kind=e))=R:=⟨_,rfl⟩
  rw [hR] at HC HR
  rw [HR.out]
  clear hR
  go_enter Tryd.func58,Tryd.ntmps58
  go_wp2_with (go_at_call 71;refine HC.out.mono ?_;rintro r w2 ⟨rfl,hg2⟩)
  go_ret
  exact ⟨ret_bool (by simp),HG.out.trans hg2⟩
 ·have HR:Hid (arrT e l=false):=by
   show arrT e l=false
   unfold arrT
   by_cases h0:0<e
   ·have h1:¬e<24:=fun h=>he ⟨h0,h⟩
    simp [h1]
   ·simp [h0]
  rw [HR.out]
  have he':e≤0∨24≤e:=by omega
  clear he
  rcases he' with h|h
  all_goals
   go_enter Tryd.func58,Tryd.ntmps58
   go_wp2
   all_goals first
    |(go_ret;exact ⟨rfl,(Grows.refl _).alloc _⟩)
    |(exfalso;omega)
end Go.Proofs.YtfoiaiblggapeaaDoor.Va
