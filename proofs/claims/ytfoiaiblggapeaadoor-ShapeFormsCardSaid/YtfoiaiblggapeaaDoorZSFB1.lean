/-
  The texts U1 C1 O1 O2 O3 A1 M1 M2 C2 W4 P3 P4 of this claim, one behind the other.
-/
import Derived.Test.YtfoiaiblggapeaaDoorZSFB0
import Derived.Test.YtfoiaiblggapeaaDoorZSFA0
import Derived.WalkKit
import Derived.WalkSpells
import Derived.WalkLawsBesides
import Derived.Lib.Hide
import Derived.Deep.Light
import Derived.Laws.Shifts
import Derived.Laws.ShiftsVar
import Derived.IntWalk
import Derived.Laws.MakeOwn
import Derived.Laws.AppendOwn
import Derived.Maps.AppendAt
set_option maxHeartbeats 40000000
set_option maxRecDepth 100000
namespace Go.Proofs.YtfoiaiblggapeaaDoor.Uc
open Go Go.RowKit Nu
def Tabs (w:World):Prop:=Lib.Utf8Tabs 2 3 w
theorem lt_of_cell {w:World} {b o:Nat} {v:Value} (h:w.cell? ⟨b,o,none⟩=some v):b<w.heap.size:=by
 rcases Nat.lt_or_ge b w.heap.size with h'|h'
 ·exact h'
 ·exfalso
  unfold World.cell? at h
  rw [show w.heap[b]? =none from Array.getElem?_eq_none h'] at h
  cases h
theorem Tabs.below {w w':World} (h:Tabs w) (hb:Below w.heap.size w w'):Tabs w':=
 ⟨fun c hc=>(hb.cell (p:=⟨_,c,none⟩) (lt_of_cell (h.1 c hc))).trans (h.1 c hc),
  fun i hi=>⟨(hb.cell (p:=⟨_,2*i,none⟩) (lt_of_cell (h.2 i hi).1)).trans (h.2 i hi).1,(hb.cell (p:=⟨_,2*i+1,none⟩) (lt_of_cell (h.2 i hi).2)).trans (h.2 i hi).2⟩⟩
theorem decode_any (s:ByteArray) (k:Nat) (w:World) (hT:Tabs w) (hk:k<s.size):
 Calls Tryd.prog 75 #[.string (s.extract k s.size)] w fun e w'=>e= .returned (.tuple #[.int .i32 (Utf8.decode s k).1,.int .i64 (Utf8.decode s k).2])∧Below w.heap.size w w':=by
 have h:=Any.utf8_DecodeRuneInString Tryd.dec197 (s.extract k s.size) w hT
 have e:Lib.decodeGo (s.extract k s.size)=Utf8.decode s k:=by
  unfold Lib.decodeGo
  have hz:(s.extract k s.size).size≠0:=by simp;omega
  rw [if_neg hz,decode_extract s k (by omega)]
 rw [e] at h
 exact h
theorem ret_int {k:IntKind} {a b:Int} (h:a=b):Ending.returned (.int k a)= .returned (.int k b):=by rw [h]
theorem utf8_any (s:ByteArray) (w:World) (hT:Tabs w) (hs:s.size≤9223372036854775807):
 Calls Tryd.prog 67 #[.string s] w fun e w'=>e= .returned (.int .i64 (utf s))∧Below w.heap.size w w':=by
 have HT:=Lib.hid hT;clear hT
 go_enter Tryd.func67,Tryd.ntmps67
 go_wp2
 go_loopw [3] (fun i wr=>∃ (k:Nat),i= .int .i64 k∧k≤s.size∧Hid (utfFrom s k=utf s)∧Below w.heap.size w wr) (fun i _=>s.size-(intOf i).toNat)
 case atStart=>exact ⟨0,rfl,Nat.zero_le _,rfl,Below.refl _ _⟩
 case round=>
  obtain ⟨k,rfl,hk,HQ,hb⟩:=hrel
  have HB:=Lib.hid hb
  by_cases hlt:k<s.size
  ·obtain ⟨hd1,hd2⟩:=decode_ch s k hlt
   have hD:=decode_any s k wr (HT.out.below hb) hlt
   have hfit:=ch_fit (s:=s) (k:=k)
   obtain ⟨c,hc⟩:∃ c,ch s k=c:=⟨_,rfl⟩
   rw [hc] at hd1 hd2 hfit
   obtain ⟨r,n,hrn⟩:∃ r n,Utf8.decode s k=(r,n):=⟨_,_,rfl⟩
   rw [hrn] at hd1 hd2 hD
   simp only at hd2 hD
   by_cases hz:c=0
   ·have e:=hd1 hz
    simp only [Prod.mk.injEq] at e
    obtain ⟨rfl,rfl⟩:=e
    have HE:Hid (utf s=k):=HQ.out.symm.trans (utf_bad hlt (by omega))
    clear hd1 hd2 hfit hc hrn hb
    go_wp2_with (go_at_call 75;refine hD.mono ?_;clear hD;rintro e w2 ⟨rfl,hb2⟩)
    go_ret
    exact ⟨ret_int HE.out.symm,HB.out.trans (hb2.mono HB.out.size)⟩
   ·obtain ⟨e,hne⟩:=hd2 hz
    subst e
    have hn1:1≤n:=by omega
    have hfit:=hfit hz
    have HN:=Lib.hid hne
    have HE:Hid (utfFrom s (k+n)=utf s):=by
     have:=utf_step hlt (by rw [hc];exact hz)
     rw [hc] at this
     exact this.symm.trans HQ.out
    clear hd1 hd2 hc hrn hb hne hz
    go_wp2_with (go_at_call 75;refine hD.mono ?_;clear hD;rintro e w2 ⟨rfl,hb2⟩)
    ·exfalso
     rename_i h1 h2
     exact HN.out ⟨by omega,by simp at h2;omega⟩
    all_goals
     go_roundw
     case rel=>exact ⟨k+n,by go_num,by omega,HE.out,HB.out.trans (hb2.mono HB.out.size)⟩
     case measure=>simp [intOf];omega
  ·obtain rfl:k=s.size:=by omega
   go_wp2
   go_ret
   exact ⟨ret_int (by rw [←HQ.out,utf_end hlt]),hb⟩
theorem ret_bool {a b:Bool} (h:a=b):Ending.returned (.bool a)= .returned (.bool b):=by rw [h]
theorem ret_bool3 {a b c a' b' c':Bool} (h:a=a') (k:b=b') (l:c=c'):Ending.returned (.tuple #[.bool a,.bool b,.bool c])= .returned (.tuple #[.bool a',.bool b',.bool c']):=by rw [h,k,l]
theorem has_any (k:Int) (w:World):Calls Tryd.prog 65 #[.int .i64 k] w fun e w'=>e= .returned (.tuple #[.bool (hasN k),.bool (hasT k),.bool (hasP k)])∧w'=w:=by
 go_enter Tryd.func65,Tryd.ntmps65
 go_wp2
 all_goals
  go_ret3
  exact ⟨ret_bool3 (by simp_all [hasN,hasT,hasP]) (by simp_all [hasT]) (by simp_all [hasP]),rfl⟩
theorem toList_nil {s:ByteArray}:s.toList=[]↔s=ByteArray.empty:=by
 rw [Lib.toList_data]
 constructor
 ·intro h
  have:s.size=0:=by rw [Lib.size_eq,h];rfl
  simpa using this
 ·intro h;rw [h];rfl
theorem extra_raw (k m:Int) (s:ByteArray) (p:Option Addr) (n c:Nat) (e:Int) (w:World) (hn:n≤9223372036854775807):
 Calls Tryd.prog 54 #[.agg #[.int .i64 k,.int .u64 m,.string s,.slice p n c,.int .i64 e]] w fun r w'=>r= .returned (.bool (extraT k m s e n))∧Below w.heap.size w w':=by
 obtain ⟨a,ha⟩:∃ a,hasN k=a:=⟨_,rfl⟩
 obtain ⟨b,hb⟩:∃ b,hasT k=b:=⟨_,rfl⟩
 obtain ⟨d,hd⟩:∃ d,hasP k=d:=⟨_,rfl⟩
 obtain ⟨R,hR⟩:∃ R,extraT k m s e n=R:=⟨_,rfl⟩
 rw [hR]
 have HR:Hid (R=((!a&&decide (m≠0))||((!b&&decide (s.size≠0))||((!d&&decide (0<n))||(decide (k≠23)&&decide (e≠0)))))):=by rw [←hR];unfold extraT;rw [ha,hb,hd];exact rfl
 have hh:=has_any k
 rw [ha,hb,hd] at hh
 have HH:=Lib.hid hh
 clear ha hb hd hR hh
 cases a<;>cases b<;>cases d
 all_goals
  go_enter Tryd.func54,Tryd.ntmps54
  go_wp2_with (go_at_call 65;refine (HH.out _).mono ?_;rintro r w2 ⟨rfl,rfl⟩)
  all_goals
   go_ret
   refine ⟨ret_bool ?_,(Below.refl _ _).alloc (Nat.le_refl _) _⟩
   rw [HR.out]
   clear HR HH
   go_light
   first
    |(simp_all;done)
    |(simp_all [toList_nil];done)
    |(by_cases hk:k=23<;>by_cases he:e=0<;>by_cases hz:n=0<;>simp_all [toList_nil]<;>omega)
theorem sgn8 (m:Int) (h0:0≤m) (h1:m≤18446744073709551615):(wrap64 m/128=0∨wrap64 m/128= -1)↔signed m 128=true:=by
 unfold signed wrap64
 simp only [Bool.or_eq_true,decide_eq_true_eq]
 omega
theorem within8 (m:Int) (w:World) (h0:0≤m) (h1:m≤18446744073709551615):Calls Tryd.prog 66 #[.int .u64 m,.int .i64 8] w fun r w'=>r= .returned (.bool (signed m 128))∧w'=w:=by
 have HS:=Lib.hid (sgn8 m h0 h1)
 go_enter Tryd.func66,Tryd.ntmps66
 go_wp2
 all_goals
  rename_i h
  go_ret
  refine ⟨ret_bool ?_,rfl⟩
  rw [Bool.eq_iff_iff,←HS.out]
  simp [h]
theorem sgn16 (m:Int) (h0:0≤m) (h1:m≤18446744073709551615):(wrap64 m/32768=0∨wrap64 m/32768= -1)↔signed m 32768=true:=by
 unfold signed wrap64
 simp only [Bool.or_eq_true,decide_eq_true_eq]
 omega
theorem within16 (m:Int) (w:World) (h0:0≤m) (h1:m≤18446744073709551615):Calls Tryd.prog 66 #[.int .u64 m,.int .i64 16] w fun r w'=>r= .returned (.bool (signed m 32768))∧w'=w:=by
 have HS:=Lib.hid (sgn16 m h0 h1)
 go_enter Tryd.func66,Tryd.ntmps66
 go_wp2
 all_goals
  rename_i h
  go_ret
  refine ⟨ret_bool ?_,rfl⟩
  rw [Bool.eq_iff_iff,←HS.out]
  simp [h]
theorem sgn32 (m:Int) (h0:0≤m) (h1:m≤18446744073709551615):(wrap64 m/2147483648=0∨wrap64 m/2147483648= -1)↔signed m 2147483648=true:=by
 unfold signed wrap64
 simp only [Bool.or_eq_true,decide_eq_true_eq]
 omega
theorem within32 (m:Int) (w:World) (h0:0≤m) (h1:m≤18446744073709551615):Calls Tryd.prog 66 #[.int .u64 m,.int .i64 32] w fun r w'=>r= .returned (.bool (signed m 2147483648))∧w'=w:=by
 have HS:=Lib.hid (sgn32 m h0 h1)
 go_enter Tryd.func66,Tryd.ntmps66
 go_wp2
 all_goals
  rename_i h
  go_ret
  refine ⟨ret_bool ?_,rfl⟩
  rw [Bool.eq_iff_iff,←HS.out]
  simp [h]
theorem num_raw (k m:Int) (s:ByteArray) (lv:Value) (e:Int) (w:World) (h0:0≤m) (h1:m≤18446744073709551615):
 Calls Tryd.prog 55 #[.agg #[.int .i64 k,.int .u64 m,.string s,lv,.int .i64 e]] w fun r w'=>r= .returned (.bool (numT k m))∧Below w.heap.size w w':=by
 have H8:=Lib.hid (fun w=>within8 m w h0 h1)
 have H16:=Lib.hid (fun w=>within16 m w h0 h1)
 have H32:=Lib.hid (fun w=>within32 m w h0 h1)
 go_enter Tryd.func55,Tryd.ntmps55
 go_wp2_with (first
  |(go_at_call 66;with_reducible refine (H8.out _).mono ?_;rintro r w2 ⟨rfl,rfl⟩)
  |(go_at_call 66;with_reducible refine (H16.out _).mono ?_;rintro r w2 ⟨rfl,rfl⟩)
  |(go_at_call 66;with_reducible refine (H32.out _).mono ?_;rintro r w2 ⟨rfl,rfl⟩))
 all_goals
  go_ret
  refine ⟨ret_bool ?_,(Below.refl _ _).alloc (Nat.le_refl _) _⟩
  clear H8 H16 H32
  go_light
  simp_all [numT]<;>omega
theorem ascii_any (s:ByteArray) (w:World) (hs:s.size≤9223372036854775807):
 Calls Tryd.prog 68 #[.string s] w fun e w'=>e= .returned (.int .i64 (asc s))∧w'=w:=by
 go_enter Tryd.func68,Tryd.ntmps68
 go_wp2
 go_loop [6] (fun i=>∃ (k:Nat),i= .int .i64 k∧k≤s.size∧Hid (ascFrom s k=asc s)) (fun i=>s.size-(intOf i).toNat)
 case atStart=>exact ⟨0,rfl,Nat.zero_le _,rfl⟩
 case round=>
  obtain ⟨k,rfl,hk,HQ⟩:=hrel
  by_cases hlt:k<s.size
  ·by_cases hc:128≤s[k].toNat
   ·have HE:Hid (asc s=k):=HQ.out.symm.trans (asc_hit hlt hc)
    have hci:(128:Int)≤(s[k].toNat:Int):=by omega
    clear hc
    go_wp2
    go_ret
    exact ⟨ret_int HE.out.symm,rfl⟩
   ·have HE:Hid (ascFrom s (k+1)=asc s):=(asc_step hlt hc).symm.trans HQ.out
    have hci:(s[k].toNat:Int)<128:=by omega
    clear hc
    go_wp2
    go_round
    case rel=>exact ⟨k+1,by go_num,by omega,HE.out⟩
    case measure=>simp [intOf];omega
  ·obtain rfl:k=s.size:=by omega
   go_wp2
   go_ret
   exact ⟨ret_int (by rw [←HQ.out,asc_end (Nat.le_refl _)]),rfl⟩
theorem text_raw (k m:Int) (s:ByteArray) (lv:Value) (e:Int) (w:World) (hT:Tabs w) (hs:s.size≤9223372036854775807):
 Calls Tryd.prog 56 #[.agg #[.int .i64 k,.int .u64 m,.string s,lv,.int .i64 e]] w fun r w'=>r= .returned (.bool (textT k s))∧Below w.heap.size w w':=by
 have HT:=Lib.hid hT;clear hT
 obtain ⟨W1,hW1⟩:∃ W1,w.alloc (.cells #[.int .i64 k,.int .u64 m,.string s,lv,.int .i64 e] 26)=W1:=⟨_,rfl⟩
 have HB:Hid (Below w.heap.size w W1):=by rw [←hW1];exact (Below.refl _ _).alloc (Nat.le_refl _) _
 have HU:=Lib.hid (utf8_any s W1 (HT.out.below HB.out) hs)
 have HA:=Lib.hid (ascii_any s W1 hs)
 rw [←hW1] at HU HA HB
 clear hW1
 go_enter Tryd.func56,Tryd.ntmps56
 go_wp2_with (first
  |(go_at_call 67;refine HU.out.mono ?_;rintro r w2 ⟨rfl,hb2⟩)
  |(go_at_call 68;refine HA.out.mono ?_;rintro r w2 ⟨rfl,rfl⟩))
 all_goals
  go_ret
  refine ⟨ret_bool ?_,by first|exact HB.out.trans (hb2.mono HB.out.size)|exact HB.out⟩
  clear HU HA HB HT
  go_light
  simp_all [textT]
 all_goals first
  |omega
  |(rw [Bool.eq_iff_iff];simp;omega)
end Go.Proofs.YtfoiaiblggapeaaDoor.Uc
namespace Go.Proofs.YtfoiaiblggapeaaDoor.Va
open Go Go.RowKit Nu
attribute [local go_sem ↓] Go.wp_at_zero Go.wp_at_succ
theorem nan_int (a:Int) (w:World):Calls Tryd.prog 97 #[.int .i64 a] w fun e w'=>e= .returned (.bool false)∧w'=w:=by
 go_enter Tryd.func97,Tryd.ntmps97
 go_wp2
 all_goals (go_ret;exact ⟨ret_bool (by simp),rfl⟩)
theorem nan_u64 (a:Int) (w:World):Calls Tryd.prog 98 #[.int .u64 a] w fun e w'=>e= .returned (.bool false)∧w'=w:=by
 go_enter Tryd.func98,Tryd.ntmps98
 go_wp2
 all_goals (go_ret;exact ⟨ret_bool (by simp),rfl⟩)
theorem cmp_int (a b:Int) (w:World):Calls Tryd.prog 79 #[.int .i64 a,.int .i64 b] w fun e w'=>e= .returned (.int .i64 (Lib.compareInt a b))∧w'=w:=by
 have hc:(a<b∧Lib.compareInt a b= -1)∨(¬a<b∧b<a∧Lib.compareInt a b=1)∨(¬a<b∧¬b<a∧Lib.compareInt a b=0):=by
  unfold Lib.compareInt;(repeat' split)<;>omega
 obtain ⟨R,hR⟩:∃ R,Lib.compareInt a b=R:=⟨_,rfl⟩
 rw [hR] at hc ⊢
 rcases hc with ⟨h1,rfl⟩|⟨h1,h2,rfl⟩|⟨h1,h2,rfl⟩
 all_goals
  clear hR
  go_enter Tryd.func79,Tryd.ntmps79
  go_wp2_with (go_at_call 97;refine (nan_int _ _).mono ?_;rintro e w' ⟨rfl,rfl⟩)
  go_ret
  exact ⟨rfl,rfl⟩
theorem cmp_u64 (a b:Int) (w:World):Calls Tryd.prog 80 #[.int .u64 a,.int .u64 b] w fun e w'=>e= .returned (.int .i64 (Lib.compareInt a b))∧w'=w:=by
 have hc:(a<b∧Lib.compareInt a b= -1)∨(¬a<b∧b<a∧Lib.compareInt a b=1)∨(¬a<b∧¬b<a∧Lib.compareInt a b=0):=by
  unfold Lib.compareInt;(repeat' split)<;>omega
 obtain ⟨R,hR⟩:∃ R,Lib.compareInt a b=R:=⟨_,rfl⟩
 rw [hR] at hc ⊢
 rcases hc with ⟨h1,rfl⟩|⟨h1,h2,rfl⟩|⟨h1,h2,rfl⟩
 all_goals
  clear hR
  go_enter Tryd.func80,Tryd.ntmps80
  go_wp2_with (go_at_call 98;refine (nan_u64 _ _).mono ?_;rintro e w' ⟨rfl,rfl⟩)
  go_ret
  exact ⟨rfl,rfl⟩
theorem cmp_str (a b:ByteArray) (w:World):Calls Tryd.prog 81 #[.string a,.string b] w fun e w'=>e= .returned (.int .i64 (Lib.compareBytes a.data.toList b.data.toList))∧w'=w:=
 Any.strings_Compare Tryd.cmp106 a b w
theorem ret_i {a b:Int} (h:a=b):Ending.returned (.int .i64 a)= .returned (.int .i64 b):=by rw [h]
theorem or3 (b:Nat) (a0 a1 a2:Int) (c:Nat) (w:World) (h0:w.cell? ⟨b,0,none⟩=some (.int .i64 a0)) (h1:w.cell? ⟨b,1,none⟩=some (.int .i64 a1)) (h2:w.cell? ⟨b,2,none⟩=some (.int .i64 a2)):
 Calls Tryd.prog 78 #[.slice (some ⟨b,0,none⟩) 3 c] w fun e w'=>e= .returned (.int .i64 (seq a0 (seq a1 a2)))∧w'=w:=by
 by_cases n0:a0=0
 ·by_cases n1:a1=0
  ·subst n0 n1
   by_cases n2:a2=0
   ·subst n2
    go_enter Tryd.func78,Tryd.ntmps78
    go_wp2
    refine wp_loop_rounds 4 ?_
    repeat (rw [rounds_succ];go_wp2)
    go_ret
    exact ⟨rfl,rfl⟩
   ·have H:=Lib.hid n2
    have hb:(a2 !=0)=true:=by simpa using n2
    clear n2
    go_enter Tryd.func78,Tryd.ntmps78
    go_wp2
    refine wp_loop_rounds 4 ?_
    repeat (rw [rounds_succ];go_wp2)
    go_ret
    exact ⟨rfl,rfl⟩
  ·subst n0
   have H:=Lib.hid n1
   have hb:(a1 !=0)=true:=by simpa using n1
   have hs:seq 0 (seq a1 a2)=a1:=by unfold seq;simp [n1]
   rw [hs]
   clear n1 hs
   go_enter Tryd.func78,Tryd.ntmps78
   go_wp2
   refine wp_loop_rounds 4 ?_
   repeat (rw [rounds_succ];go_wp2)
   go_ret
   exact ⟨rfl,rfl⟩
 ·have hb:(a0 !=0)=true:=by simpa using n0
  have hs:seq a0 (seq a1 a2)=a0:=by unfold seq;simp [n0]
  rw [hs]
  clear n0 hs
  go_enter Tryd.func78,Tryd.ntmps78
  go_wp2
  refine wp_loop_rounds 4 ?_
  repeat (rw [rounds_succ];go_wp2)
  go_ret
  exact ⟨rfl,rfl⟩
theorem or2 (b:Nat) (a0 a1:Int) (c:Nat) (w:World) (h0:w.cell? ⟨b,0,none⟩=some (.int .i64 a0)) (h1:w.cell? ⟨b,1,none⟩=some (.int .i64 a1)):
 Calls Tryd.prog 78 #[.slice (some ⟨b,0,none⟩) 2 c] w fun e w'=>e= .returned (.int .i64 (seq a0 a1))∧w'=w:=by
 by_cases n0:a0=0
 ·subst n0
  by_cases n2:a1=0
  ·subst n2
   go_enter Tryd.func78,Tryd.ntmps78
   go_wp2
   refine wp_loop_rounds 3 ?_
   repeat (rw [rounds_succ];go_wp2)
   go_ret
   exact ⟨rfl,rfl⟩
  ·have H:=Lib.hid n2
   have hb:(a1 !=0)=true:=by simpa using n2
   clear n2
   go_enter Tryd.func78,Tryd.ntmps78
   go_wp2
   refine wp_loop_rounds 3 ?_
   repeat (rw [rounds_succ];go_wp2)
   go_ret
   exact ⟨rfl,rfl⟩
 ·have hb:(a0 !=0)=true:=by simpa using n0
  have hs:seq a0 a1=a0:=by unfold seq;simp [n0]
  rw [hs]
  clear n0 hs
  go_enter Tryd.func78,Tryd.ntmps78
  go_wp2
  refine wp_loop_rounds 3 ?_
  repeat (rw [rounds_succ];go_wp2)
  go_ret
  exact ⟨rfl,rfl⟩
theorem new_row {W:World} {B:Nat} (h:W.heap.size=B) {cs:Array Value} {T:TypeId} (j:Nat) (u:Value) (hu:cs[j]? =some u):((W.alloc (.cells cs T)).drew).cell? ⟨B,j,none⟩=some u:=by
 have h1:(W.alloc (.cells cs T)).cell? ⟨W.heap.size,j,none⟩=some u:=by rw [World.cell?_alloc_new];exact hu
 rw [h] at h1
 exact ((Below.refl (B+1) (W.alloc (.cells cs T))).drew.cell (p:=⟨B,j,none⟩) (by simp)).trans h1
theorem new_cell (W:World) (cs:Array Value) (T:TypeId) (j:Nat) (u:Value) (hu:cs[j]? =some u):(W.alloc (.cells cs T)).cell? ⟨W.heap.size,j,none⟩=some u:=by
 rw [World.cell?_alloc_new];exact hu
abbrev ordFn:Value:= .func (.func 70) #[] #[]
def CmpS (N:Nat):Prop:=∀ (B:Nat) (lv lv':Value) (l l':List VT) (w:World),LAt B w N lv l→LAt B w N lv' l'→B≤w.heap.size→
    Calls Tryd.prog 82 #[lv,lv',ordFn] w fun e w'=>e= .returned (.int .i64 (ordTs l l'))∧Grows w w'
theorem order_of {N:Nat} (hS:CmpS N) (B:Nat) (k m:Int) (s:ByteArray) (e:Int) (l:List VT) (lv:Value) (k' m':Int) (s':ByteArray) (e':Int) (l':List VT) (lv':Value) (w:World) (hl:LAt B w N lv l) (hl':LAt B w N lv' l') (hB:B≤w.heap.size):
 Calls Tryd.prog 70 #[.agg #[.int .i64 k,.int .u64 m,.string s,lv,.int .i64 e],.agg #[.int .i64 k',.int .u64 m',.string s',lv',.int .i64 e']] w fun r w'=>r= .returned (.int .i64 (ordT (.mk k m s e l) (.mk k' m' s' e' l')))∧Grows w w':=by
 have HS:=Lib.hid hS
 have HL:=Lib.hid hl
 have HL':=Lib.hid hl'
 clear hS hl hl'
 obtain ⟨X0,hX0⟩:∃ X,Lib.compareInt k k'=X:=⟨_,rfl⟩
 obtain ⟨X1,hX1⟩:∃ X,Lib.compareInt m m'=X:=⟨_,rfl⟩
 obtain ⟨X2,hX2⟩:∃ X,Lib.compareBytes s.data.toList s'.data.toList=X:=⟨_,rfl⟩
 obtain ⟨X3,hX3⟩:∃ X,ordTs l l'=X:=⟨_,rfl⟩
 obtain ⟨X4,hX4⟩:∃ X,Lib.compareInt e e'=X:=⟨_,rfl⟩
 have hR:ordT (.mk k m s e l) (.mk k' m' s' e' l')=seq (seq X0 (seq X1 X2)) (seq X3 X4):=by
  rw [ordT,hX0,hX1,hX2,hX3,hX4]
 rw [hR]
 obtain ⟨R,hRR⟩:∃ R,seq (seq X0 (seq X1 X2)) (seq X3 X4)=R:=⟨_,rfl⟩
 rw [hRR]
 have HR:=Lib.hid hRR
 clear hRR
 have c0:=fun w=>cmp_int k k' w
 have c1:=fun w=>cmp_u64 m m' w
 have c2:=fun w=>cmp_str s s' w
 have c4:=fun w=>cmp_int e e' w
 rw [hX0] at c0
 rw [hX1] at c1
 rw [hX2] at c2
 rw [hX4] at c4
 have C0:=Lib.hid c0
 have C1:=Lib.hid c1
 have C2:=Lib.hid c2
 have C4:=Lib.hid c4
 have H3:=Lib.hid hX3
 clear c0 c1 c2 c4 hX0 hX1 hX2 hX3 hX4 hR
 go_enter Tryd.func70,Tryd.ntmps70
 go_wp2
 obtain ⟨W1,hW1⟩:∃ W1,(w.alloc (.cells #[.int .i64 k,.int .u64 m,.string s,lv,.int .i64 e] 26)).alloc (.cells #[.int .i64 k',.int .u64 m',.string s',lv',.int .i64 e'] 26)=W1:=⟨_,rfl⟩
 have hz1:W1.heap.size=w.heap.size+2:=by rw [←hW1];simp
 have hg1:Grows w W1:=by rw [←hW1];exact ((Grows.refl _).alloc _).alloc _
 have hc:∀ j u,([.int .i64 k,.int .u64 m,.string s,lv,.int .i64 e]:List Value)[j]? =some u→W1.cell? ⟨w.heap.size,j,none⟩=some u:=by
  intro j u hu
  have h1:((w.alloc (.cells #[.int .i64 k,.int .u64 m,.string s,lv,.int .i64 e] 26))).cell? ⟨w.heap.size,j,none⟩=some u:=by
   rw [World.cell?_alloc_new];simpa using hu
  rw [←hW1]
  exact (((Below.refl _ _).alloc (Nat.le_refl _) _).cell (p:=⟨w.heap.size,j,none⟩) (by simp)).trans h1
 have hc':∀ j u,([.int .i64 k',.int .u64 m',.string s',lv',.int .i64 e']:List Value)[j]? =some u→W1.cell? ⟨w.heap.size+1,j,none⟩=some u:=by
  intro j u hu
  have h1:=World.cell?_alloc_new (w.alloc (.cells #[.int .i64 k,.int .u64 m,.string s,lv,.int .i64 e] 26)) #[.int .i64 k',.int .u64 m',.string s',lv',.int .i64 e'] 26 j
  rw [show (w.alloc (.cells #[.int .i64 k,.int .u64 m,.string s,lv,.int .i64 e] 26)).heap.size=w.heap.size+1 by simp] at h1
  rw [←hW1,h1];simpa using hu
 rw [hW1]
 clear hW1
 have HALL:Hid (∀ w',Below W1.heap.size W1 w'→(Below W1.heap.size W1 w'∧w'.cell? ⟨w.heap.size,0,none⟩=some (.int .i64 k)∧w'.cell? ⟨w.heap.size,1,none⟩=some (.int .u64 m)∧w'.cell? ⟨w.heap.size,2,none⟩=some (.string s)∧w'.cell? ⟨w.heap.size+1,0,none⟩=some (.int .i64 k')∧w'.cell? ⟨w.heap.size+1,1,none⟩=some (.int .u64 m')∧w'.cell? ⟨w.heap.size+1,2,none⟩=some (.string s'))):=fun w' h=>
  have q:∀ b o,b<W1.heap.size→w'.cell? ⟨b,o,none⟩=W1.cell? ⟨b,o,none⟩:=fun b o hb=>h.cell (p:=⟨b,o,none⟩) hb
  ⟨h,(q _ _ (by omega)).trans (hc 0 _ rfl),(q _ _ (by omega)).trans (hc 1 _ rfl),(q _ _ (by omega)).trans (hc 2 _ rfl),(q _ _ (by omega)).trans (hc' 0 _ rfl),(q _ _ (by omega)).trans (hc' 1 _ rfl),(q _ _ (by omega)).trans (hc' 2 _ rfl)⟩
 have HALL2:Hid (∀ w',Below W1.heap.size W1 w'→(Below W1.heap.size W1 w'∧w'.cell? ⟨w.heap.size,3,none⟩=some lv∧w'.cell? ⟨w.heap.size,4,none⟩=some (.int .i64 e)∧w'.cell? ⟨w.heap.size+1,3,none⟩=some lv'∧w'.cell? ⟨w.heap.size+1,4,none⟩=some (.int .i64 e'))):=fun w' h=>
  have q:∀ b o,b<W1.heap.size→w'.cell? ⟨b,o,none⟩=W1.cell? ⟨b,o,none⟩:=fun b o hb=>h.cell (p:=⟨b,o,none⟩) hb
  ⟨h,(q _ _ (by omega)).trans (hc 3 _ rfl),(q _ _ (by omega)).trans (hc 4 _ rfl),(q _ _ (by omega)).trans (hc' 3 _ rfl),(q _ _ (by omega)).trans (hc' 4 _ rfl)⟩
 clear hc hc'
 obtain ⟨_,a0,a1,a2,b0,b1,b2⟩:=HALL.out W1 (Below.refl _ _)
 go_region_held3 (fun w'=>Below W1.heap.size W1 w'∧w'.cell? ⟨w.heap.size,0,none⟩=some (.int .i64 k)∧w'.cell? ⟨w.heap.size,1,none⟩=some (.int .u64 m)∧w'.cell? ⟨w.heap.size,2,none⟩=some (.string s)∧w'.cell? ⟨w.heap.size+1,0,none⟩=some (.int .i64 k')∧w'.cell? ⟨w.heap.size+1,1,none⟩=some (.int .u64 m')∧w'.cell? ⟨w.heap.size+1,2,none⟩=some (.string s'))
  (first
    |exact HALL.out _ (Below.refl _ _)
    |exact HALL.out _ (Below.refl _ _).drew
    |exact HALL.out _ ((Below.refl _ _).drew.alloc (by simp) _)
    |assumption)
  ((first
    |(go_at_call 79;refine (C0.out _).mono ?_;rintro r w2 ⟨rfl,rfl⟩)
    |(go_at_call 80;refine (C1.out _).mono ?_;rintro r w2 ⟨rfl,rfl⟩)
    |(go_at_call 81;refine (C2.out _).mono ?_;rintro r w2 ⟨rfl,rfl⟩)
    |(go_at_call 78;refine (or3 _ _ _ _ _ _ (new_row hz1 0 _ rfl) (new_row hz1 1 _ rfl) (new_row hz1 2 _ rfl)).mono ?_;rintro r w2 ⟨rfl,rfl⟩)))
 obtain ⟨W2,hW2⟩:∃ W2,(W1.alloc (.cells #[.int .i64 X0,.int .i64 X1,.int .i64 X2] 3)).drew=W2:=⟨_,rfl⟩
 have hg2:Grows W1 W2:=by rw [←hW2];exact ((Grows.refl _).alloc _).drew
 have hz2:W2.heap.size=w.heap.size+3:=by rw [←hW2];simp;omega
 obtain ⟨Y,hY⟩:∃ Y,seq X0 (seq X1 X2)=Y:=⟨_,rfl⟩
 have HRY:Hid (seq Y (seq X3 X4)=R):=by rw [←hY];exact HR.out
 rw [hW2,hY]
 clear HR hW2 hY a0 a1 a2 b0 b1 b2 C0 C1 C2
 by_cases hn:Y=0
 ·subst hn
  have hs:Hid (seq X3 X4=R):=by rw [←HRY.out];show seq X3 X4=seq 0 (seq X3 X4);unfold seq;simp
  clear HRY
  have HALL3:Hid (∀ w',Below W2.heap.size W2 w'→(Below W2.heap.size W2 w'∧w'.cell? ⟨w.heap.size,3,none⟩=some lv∧w'.cell? ⟨w.heap.size,4,none⟩=some (.int .i64 e)∧w'.cell? ⟨w.heap.size+1,3,none⟩=some lv'∧w'.cell? ⟨w.heap.size+1,4,none⟩=some (.int .i64 e'))):=fun w' h=>
   ⟨h,(HALL2.out w' (hg2.below.trans (h.mono hg2.size))).2⟩
  have HLA:Hid (∀ w',Below W2.heap.size W2 w'→LAt B w' N lv l∧LAt B w' N lv' l'∧B≤w'.heap.size):=fun w' h=>
   have hb:Below B w w':=((hg1.trans hg2).below.trans (h.mono (hg1.trans hg2).size)).mono hB
   ⟨HL.out.below hb,HL'.out.below hb,by have:=h.size;omega⟩
  clear HALL HALL2 HL HL'
  obtain ⟨_,a3,a4,b3,b4⟩:=HALL3.out W2 (Below.refl _ _)
  go_wp2
  go_region_held3 (fun w'=>Below W2.heap.size W2 w'∧w'.cell? ⟨w.heap.size,3,none⟩=some lv∧w'.cell? ⟨w.heap.size,4,none⟩=some (.int .i64 e)∧w'.cell? ⟨w.heap.size+1,3,none⟩=some lv'∧w'.cell? ⟨w.heap.size+1,4,none⟩=some (.int .i64 e'))
   (first
     |exact HALL3.out _ (Below.refl _ _)
     |exact HALL3.out _ (Below.refl _ _).drew
     |exact HALL3.out _ ((Below.refl _ _).drew.trans hg3.below)
     |exact HALL3.out _ (((Below.refl _ _).drew.trans hg3.below).alloc hsz3 _)
     |assumption)
   ((first
     |(go_at_call 79;refine (C4.out _).mono ?_;rintro r w2 ⟨rfl,rfl⟩)
     |(go_at_call 82;refine (HS.out B lv lv' l l' W2.drew (HLA.out _ (Below.refl _ _).drew).1 (HLA.out _ (Below.refl _ _).drew).2.1 (HLA.out _ (Below.refl _ _).drew).2.2).mono ?_;rintro r w3 ⟨hr,hg3⟩;rw [H3.out] at hr;subst hr;have hsz3:W2.heap.size≤w3.heap.size:=hg3.size)
     |(go_at_call 78;refine (or2 _ _ _ _ _ (new_cell _ _ _ 0 _ rfl) (new_cell _ _ _ 1 _ rfl)).mono ?_;rintro r w4 ⟨rfl,rfl⟩)))
  all_goals
   go_wp2
   go_ret
   exact ⟨ret_i hs.out,(hg1.trans hg2).trans ((((Grows.refl W2).drew).trans hg3).alloc _)⟩
 ·have hb:(Y !=0)=true:=by simpa using hn
  have hs:Hid (Y=R):=by rw [←HRY.out];show Y=seq Y (seq X3 X4);unfold seq;simp [hn]
  clear hn HRY HALL HALL2
  go_wp2
  go_ret
  exact ⟨ret_i hs.out,hg1.trans hg2⟩
theorem cmps:∀ N,CmpS N:=by
 intro N
 induction N with
 |zero=>intro B lv lv' l l' w h;exact h.elim
 |succ N ih=>
  intro B lv lv' l l' w hl hl' hB
  have HS:=Lib.hid ih
  have HL:=Lib.hid hl
  have HL':=Lib.hid hl'
  obtain ⟨p,c,rfl⟩:=hl.slice
  obtain ⟨p',c',rfl⟩:=hl'.slice
  have hlen:l.length≤9223372036854775807:=hl.len
  have hlen':l'.length≤9223372036854775807:=hl'.len
  clear hl hl' ih
  obtain ⟨n,hn⟩:∃ n,l.length=n:=⟨_,rfl⟩
  obtain ⟨n',hn'⟩:∃ n,l'.length=n:=⟨_,rfl⟩
  have Hn:=Lib.hid hn
  have Hn':=Lib.hid hn'
  rw [hn] at hlen HL ⊢
  rw [hn'] at hlen' HL' ⊢
  clear hn hn'
  go_enter Tryd.func82,Tryd.ntmps82
  go_wp2
  go_loopw [13] (fun i wr=>∃ (j:Nat),i= .int .i64 j∧j≤n∧j≤n'∧Hid (ordTs (l.drop j) (l'.drop j)=ordTs l l')∧Grows w wr) (fun i _=>n-(intOf i).toNat)
  case atStart=>exact ⟨0,rfl,Nat.zero_le _,Nat.zero_le _,rfl,Grows.refl _⟩
  case round=>
   obtain ⟨j,rfl,hj,hj',HQ,hg⟩:=hrel
   have HG:=Lib.hid hg
   clear hg
   by_cases hlt:j<n
   ·rcases HL.out with ⟨h0,_⟩|⟨b,off,c0,hp,hbB,_,hel⟩
    ·rw [←Hn.out,h0] at hlt;exact absurd hlt (by simp)
    obtain ⟨t,ht⟩:∃ t,l[j]? =some t:=⟨_,List.getElem?_eq_getElem (by rw [Hn.out];exact hlt)⟩
    obtain ⟨hf,lv,hat,hl⟩:=hel j t ht
    obtain ⟨pe,ce,rfl⟩:=hl.slice
    have hbw:Below B w wr:=HG.out.below.mono hB
    have hzw:=HG.out.size
    obtain ⟨e0,e1,e2,e3,e4⟩:=hat.below hbw hbB
    rw [Hn.out] at hp
    cases hp
    by_cases hlt':j<n'
    ·rcases HL'.out with ⟨h0,_⟩|⟨b',off',c0',hp',hbB',_,hel'⟩
     ·rw [←Hn'.out,h0] at hlt';exact absurd hlt' (by simp)
     rw [Hn'.out] at hp'
     cases hp'
     obtain ⟨t',ht'⟩:∃ t,l'[j]? =some t:=⟨_,List.getElem?_eq_getElem (by rw [Hn'.out];exact hlt')⟩
     obtain ⟨hf',lv',hat',hl'⟩:=hel' j t' ht'
     obtain ⟨pe',ce',rfl⟩:=hl'.slice
     obtain ⟨f0,f1,f2,f3,f4⟩:=hat'.below hbw hbB'
     have HLA:Hid (∀ w',Below wr.heap.size wr w'→LAt B w' N (.slice pe t.list.length ce) t.list∧LAt B w' N (.slice pe' t'.list.length ce') t'.list∧B≤w'.heap.size):=fun w' h=>
      have hb:Below B w w':=hbw.trans (h.mono (by omega))
      ⟨hl.below hb,hl'.below hb,by have:=h.size;omega⟩
     have hst:=Lib.hid (ordTs_step ht ht')
     have hi0:(0:Int)≤(j:Int):=by omega
     have hi1:(j:Int)<(n:Int):=by omega
     have hi2:(j:Int)<(n':Int):=by omega
     have hb0:b<wr.heap.size:=by omega
     have hb0':b'<wr.heap.size:=by omega
     obtain ⟨X,hX⟩:∃ X,ordT t t'=X:=⟨_,rfl⟩
     rw [hX] at hst
     have HX:=Lib.hid hX
     clear hel hel' hat hat' hl hl' ht ht' hX
     have HC:Hid (∀ w',Grows wr w'→Calls Tryd.prog 70 #[.agg #[.int .i64 t.kind,.int .u64 t.num,.string t.text,.slice pe t.list.length ce,.int .i64 t.elem],.agg #[.int .i64 t'.kind,.int .u64 t'.num,.string t'.text,.slice pe' t'.list.length ce',.int .i64 t'.elem]] w' fun r w''=>r= .returned (.int .i64 X)∧Grows w' w''):=fun w' h=>by
      have hh:=HLA.out w' h.below
      have:=order_of HS.out B t.kind t.num t.text t.elem t.list (.slice pe t.list.length ce) t'.kind t'.num t'.text t'.elem t'.list (.slice pe' t'.list.length ce') w' hh.1 hh.2.1 hh.2.2
      rwa [VT.eta,VT.eta,HX.out] at this
     clear HLA
     by_cases hn:X=0
     ·subst hn
      have hst2:Hid (ordTs (l.drop (j+1)) (l'.drop (j+1))=ordTs l l'):=by
       show ordTs _ _=_;rw [←HQ.out,hst.out,seq_0]
      clear hst
      go_wp2_with (go_at_call 70;refine (HC.out _ (((Grows.refl _).alloc _).alloc _)).mono ?_;rintro r w2 ⟨rfl,hg2⟩)
      go_roundw
      case rel=>exact ⟨j+1,by go_num,by omega,by omega,hst2.out,HG.out.trans ((((Grows.refl _).alloc _).alloc _).trans hg2)⟩
      case measure=>simp [intOf];omega
     ·have hb:(X !=0)=true:=by simpa using hn
      have hst2:Hid (X=ordTs l l'):=by
       show X=_;rw [←HQ.out,hst.out,seq_ne hn]
      clear hst hn
      go_wp2_with (go_at_call 70;refine (HC.out _ (((Grows.refl _).alloc _).alloc _)).mono ?_;rintro r w2 ⟨rfl,hg2⟩)
      go_ret
      exact ⟨ret_i hst2.out,HG.out.trans ((((Grows.refl _).alloc _).alloc _).trans hg2)⟩
    ·have HE:Hid (1=ordTs l l'):=by
      show 1=_;rw [←HQ.out,ordTs_over (by rw [Hn.out];exact hlt) (by rw [Hn'.out];omega)]
     have hi0:(0:Int)≤(j:Int):=by omega
     have hi1:(j:Int)<(n:Int):=by omega
     clear hel hat hl ht
     go_wp2
     go_ret
     exact ⟨ret_i HE.out,HG.out.trans ((Grows.refl _).alloc _)⟩
   ·obtain rfl:j=n:=by omega
    have HE:Hid ((if j<n' then -1 else 0)=ordTs l l'):=by
     show _=_;rw [←HQ.out,ordTs_end (by rw [Hn.out];exact Nat.le_refl _),Hn'.out]
    by_cases hlt':j<n'
    ·have HE2:Hid (-1=ordTs l l'):=by show -1=_;rw [←HE.out,if_pos hlt']
     go_wp2
     go_ret
     exact ⟨ret_i HE2.out,HG.out⟩
    ·have HE2:Hid (0=ordTs l l'):=by show 0=_;rw [←HE.out,if_neg hlt']
     go_wp2
     go_ret
     exact ⟨ret_i HE2.out,HG.out⟩
theorem order_any {N B:Nat} {t t':VT} {v v':Value} {w:World} (h:VAt B w N v t) (h':VAt B w N v' t') (hB:B≤w.heap.size):
 Calls Tryd.prog 70 #[v,v'] w fun r w'=>r= .returned (.int .i64 (ordT t t'))∧Grows w w':=by
 obtain ⟨_,lv,rfl,hl⟩:=h
 obtain ⟨_,lv',rfl,hl'⟩:=h'
 have:=order_of (cmps N) B t.kind t.num t.text t.elem t.list lv t'.kind t'.num t'.text t'.elem t'.list lv' w hl hl' hB
 rwa [VT.eta,VT.eta] at this
end Go.Proofs.YtfoiaiblggapeaaDoor.Va
namespace Go.Proofs.YtfoiaiblggapeaaDoor.Va
open Go Go.RowKit Nu
abbrev eqFn:Value:= .func (.func 41) #[] #[]
def EqS (N:Nat):Prop:=∀ (B:Nat) (lv lv':Value) (l l':List VT) (w:World),LAt B w N lv l→LAt B w N lv' l'→B≤w.heap.size→
    Calls Tryd.prog 62 #[lv,lv',eqFn] w fun e w'=>e= .returned (.bool (eqTs l l'))∧Grows w w'
theorem peq_of {N:Nat} (hS:EqS N) (B:Nat) (k m:Int) (s:ByteArray) (e:Int) (l:List VT) (lv:Value) (k' m':Int) (s':ByteArray) (e':Int) (l':List VT) (lv':Value) (w:World) (hl:LAt B w N lv l) (hl':LAt B w N lv' l') (hB:B≤w.heap.size):
 Calls Tryd.prog 41 #[.agg #[.int .i64 k,.int .u64 m,.string s,lv,.int .i64 e],.agg #[.int .i64 k',.int .u64 m',.string s',lv',.int .i64 e']] w fun r w'=>r= .returned (.bool (eqT (.mk k m s e l) (.mk k' m' s' e' l')))∧Grows w w':=by
 have HLA:Hid (∀ w',Grows w w'→LAt B w' N lv l∧LAt B w' N lv' l'∧B≤w'.heap.size):=fun w' h=>
  have hb:Below B w w':=h.below.mono hB
  ⟨hl.below hb,hl'.below hb,by have:=h.size;omega⟩
 have HS:=Lib.hid hS
 clear hl hl' hS
 have HE:=Lib.hid (eqT_mk (.mk k m s e l) (.mk k' m' s' e' l'))
 obtain ⟨R,hR⟩:∃ R,eqT (.mk k m s e l) (.mk k' m' s' e' l')=R:=⟨_,rfl⟩
 rw [hR] at HE ⊢
 clear hR
 by_cases hh:k=k'∧m=m'∧s=s'∧e=e'
 ·obtain ⟨rfl,rfl,rfl,rfl⟩:=hh
  have HE2:Hid (eqTs l l'=R):=by show eqTs l l'=R;rw [HE.out];simp [VT.kind,VT.num,VT.text,VT.elem,VT.list]
  clear HE
  go_enter Tryd.func41,Tryd.ntmps41
  go_wp2_with (go_at_call 62;refine (HS.out B lv lv' l l' _ (HLA.out _ (((Grows.refl _).alloc _).alloc _)).1 (HLA.out _ (((Grows.refl _).alloc _).alloc _)).2.1 (HLA.out _ (((Grows.refl _).alloc _).alloc _)).2.2).mono ?_;rintro r w2 ⟨hr,hg2⟩;rw [HE2.out] at hr;subst hr)
  go_ret
  exact ⟨rfl,(((Grows.refl _).alloc _).alloc _).trans hg2⟩
 ·have HN:=Lib.hid hh
  have HE2:Hid (R=false):=by
   show R=false
   rw [HE.out]
   by_cases h1:k=k'<;>by_cases h2:m=m'<;>by_cases h4:e=e'<;>simp_all [VT.kind,VT.num,VT.text,VT.elem,VT.list]
   exact fun h=>absurd (toList_inj h) hh
  clear hh HE
  go_enter Tryd.func41,Tryd.ntmps41
  go_wp2_with (go_at_call 62;exfalso;exact HN.out ⟨by assumption,by assumption,toList_inj (by assumption),by assumption⟩)
  all_goals
   go_ret
   exact ⟨ret_bool HE2.out.symm,((Grows.refl _).alloc _).alloc _⟩
theorem eqfs:∀ N,EqS N:=by
 intro N
 induction N with
 |zero=>intro B lv lv' l l' w h;exact h.elim
 |succ N ih=>
  intro B lv lv' l l' w hl hl' hB
  have HS:=Lib.hid ih
  have HL:=Lib.hid hl
  have HL':=Lib.hid hl'
  obtain ⟨p,c,rfl⟩:=hl.slice
  obtain ⟨p',c',rfl⟩:=hl'.slice
  have hlen:l.length≤9223372036854775807:=hl.len
  have hlen':l'.length≤9223372036854775807:=hl'.len
  clear hl hl' ih
  by_cases hll:l.length=l'.length
  ·obtain ⟨n,hn⟩:∃ n,l.length=n:=⟨_,rfl⟩
   have hn':l'.length=n:=by omega
   have Hn:=Lib.hid hn
   have Hn':=Lib.hid hn'
   rw [hn] at hlen HL ⊢
   rw [hn'] at HL' ⊢
   clear hn hn' hll hlen'
   go_enter Tryd.func62,Tryd.ntmps62
   go_wp2
   go_loopw [17] (fun i wr=>∃ (j:Nat),i= .int .i64 j∧j≤n∧Hid (eqTs (l.drop j) (l'.drop j)=eqTs l l')∧Grows w wr) (fun i _=>n-(intOf i).toNat)
   case atStart=>exact ⟨0,rfl,Nat.zero_le _,rfl,Grows.refl _⟩
   case round=>
    obtain ⟨j,rfl,hj,HQ,hg⟩:=hrel
    have HG:=Lib.hid hg
    clear hg
    by_cases hlt:j<n
    ·rcases HL.out with ⟨h0,_⟩|⟨b,off,c0,hp,hbB,_,hel⟩
     ·rw [←Hn.out,h0] at hlt;exact absurd hlt (by simp)
     rcases HL'.out with ⟨h0,_⟩|⟨b',off',c0',hp',hbB',_,hel'⟩
     ·rw [←Hn'.out,h0] at hlt;exact absurd hlt (by simp)
     rw [Hn.out] at hp
     rw [Hn'.out] at hp'
     cases hp
     cases hp'
     obtain ⟨t,ht⟩:∃ t,l[j]? =some t:=⟨_,List.getElem?_eq_getElem (by rw [Hn.out];exact hlt)⟩
     obtain ⟨t',ht'⟩:∃ t,l'[j]? =some t:=⟨_,List.getElem?_eq_getElem (by rw [Hn'.out];exact hlt)⟩
     obtain ⟨hf,lv,hat,hl⟩:=hel j t ht
     obtain ⟨hf',lv',hat',hl'⟩:=hel' j t' ht'
     obtain ⟨pe,ce,rfl⟩:=hl.slice
     obtain ⟨pe',ce',rfl⟩:=hl'.slice
     have hbw:Below B w wr:=HG.out.below.mono hB
     have hzw:=HG.out.size
     obtain ⟨e0,e1,e2,e3,e4⟩:=hat.below hbw hbB
     obtain ⟨f0,f1,f2,f3,f4⟩:=hat'.below hbw hbB'
     have hst:=Lib.hid (eqTs_step ht ht')
     have hi0:(0:Int)≤(j:Int):=by omega
     have hi1:(j:Int)<(n:Int):=by omega
     have hb0:b<wr.heap.size:=by omega
     have hb0':b'<wr.heap.size:=by omega
     obtain ⟨X,hX⟩:∃ X,eqT t t'=X:=⟨_,rfl⟩
     rw [hX] at hst
     have HC:Hid (∀ w',Grows wr w'→Calls Tryd.prog 41 #[.agg #[.int .i64 t.kind,.int .u64 t.num,.string t.text,.slice pe t.list.length ce,.int .i64 t.elem],.agg #[.int .i64 t'.kind,.int .u64 t'.num,.string t'.text,.slice pe' t'.list.length ce',.int .i64 t'.elem]] w' fun r w''=>r= .returned (.bool X)∧Grows w' w''):=fun w' h=>by
      have hb:Below B w w':=hbw.trans (h.below.mono (by omega))
      have:=peq_of HS.out B t.kind t.num t.text t.elem t.list (.slice pe t.list.length ce) t'.kind t'.num t'.text t'.elem t'.list (.slice pe' t'.list.length ce') w' (hl.below hb) (hl'.below hb) (by have:=h.size;omega)
      rwa [VT.eta,VT.eta,hX] at this
     clear hel hel' hat hat' hl hl' ht ht' hX
     cases X with
     |true=>
      have hst2:Hid (eqTs (l.drop (j+1)) (l'.drop (j+1))=eqTs l l'):=by
       show eqTs _ _=_;rw [←HQ.out,hst.out,Bool.true_and]
      clear hst
      go_wp2_with (go_at_call 41;refine (HC.out _ (((Grows.refl _).alloc _).alloc _)).mono ?_;rintro r w2 ⟨rfl,hg2⟩)
      go_roundw
      case rel=>exact ⟨j+1,by go_num,by omega,hst2.out,HG.out.trans ((((Grows.refl _).alloc _).alloc _).trans hg2)⟩
      case measure=>simp [intOf];omega
     |false=>
      have hst2:Hid (false=eqTs l l'):=by
       show false=_;rw [←HQ.out,hst.out,Bool.false_and]
      clear hst
      go_wp2_with (go_at_call 41;refine (HC.out _ (((Grows.refl _).alloc _).alloc _)).mono ?_;rintro r w2 ⟨rfl,hg2⟩)
      go_ret
      exact ⟨ret_bool hst2.out,HG.out.trans ((((Grows.refl _).alloc _).alloc _).trans hg2)⟩
    ·obtain rfl:j=n:=by omega
     go_wp2
     go_ret
     exact ⟨ret_bool (by rw [←HQ.out,←Hn.out,eqTs_end (by rw [Hn.out,Hn'.out])]),HG.out⟩
  ·have HE:=Lib.hid (eqTs_len hll)
   have hb:((l.length:Int)!=(l'.length:Int))=true:=by simp;omega
   have Hll:=Lib.hid hll
   clear hll
   go_enter Tryd.func62,Tryd.ntmps62
   go_wp2
   go_ret
   exact ⟨ret_bool HE.out.symm,Grows.refl _⟩
theorem pequal_any {N B:Nat} {t t':VT} {v v':Value} {w:World} (h:VAt B w N v t) (h':VAt B w N v' t') (hB:B≤w.heap.size):
 Calls Tryd.prog 41 #[v,v'] w fun r w'=>r= .returned (.bool (eqT t t'))∧Grows w w':=by
 obtain ⟨_,lv,rfl,hl⟩:=h
 obtain ⟨_,lv',rfl,hl'⟩:=h'
 have:=peq_of (eqfs N) B t.kind t.num t.text t.elem t.list lv t'.kind t'.num t'.text t'.elem t'.list lv' w hl hl' hB
 rwa [VT.eta,VT.eta] at this
def otherK (l:List VT) (el:Int):Option Nat:=l.findIdx? fun t=>decide (t.kind≠el)
def otherI (l:List VT) (el:Int):Int:=match otherK l el with|some j=>(j:Int)|none=> -1
theorem otherI_hit {l:List VT} {el:Int} {j:Nat} {t:VT} (ht:l[j]? =some t) (hk:t.kind≠el) (hlo:∀ i u,i<j→l[i]? =some u→u.kind=el):otherI l el=j:=by
 unfold otherI otherK
 have:l.findIdx? (fun t=>decide (t.kind≠el))=some j:=by
  rw [List.findIdx?_eq_some_iff_getElem]
  obtain ⟨hj,hg⟩:=List.getElem?_eq_some_iff.1 ht
  refine ⟨hj,by rw [hg];simpa using hk,fun i hi=>?_⟩
  have:=hlo i l[i] hi (List.getElem?_eq_getElem (by omega))
  simpa using this
 rw [this]
theorem otherI_none {l:List VT} {el:Int} (hlo:∀ i u,i<l.length→l[i]? =some u→u.kind=el):otherI l el= -1:=by
 unfold otherI otherK
 have:l.findIdx? (fun t=>decide (t.kind≠el))=none:=by
  rw [List.findIdx?_eq_none_iff]
  intro x hx
  obtain ⟨i,hi,rfl⟩:=List.getElem_of_mem hx
  have:=hlo i l[i] hi (List.getElem?_eq_getElem hi)
  simpa using this
 rw [this]
theorem otherI_all (l:List VT) (el:Int):decide (0≤otherI l el)= !(l.all fun t=>decide (t.kind=el)):=by
 by_cases h:l.all (fun t=>decide (t.kind=el))=true
 ·rw [h,otherI_none fun i u hi hu=>by simpa using List.all_eq_true.1 h u (List.mem_of_getElem? hu)]
  decide
 ·have h':l.all (fun t=>decide (t.kind=el))=false:=by simpa using h
  rw [h']
  unfold otherI otherK
  cases hf:l.findIdx? (fun t=>decide (t.kind≠el)) with
  |none=>
   exfalso
   apply h
   rw [List.findIdx?_eq_none_iff] at hf
   rw [List.all_eq_true]
   intro x hx
   have:=hf x hx
   simpa using this
  |some j=>simp
abbrev othFn (bx:Nat):Value:= .func (.func 72) #[] #[.pointer (some ⟨bx,0,none⟩)]
theorem oth_any (k m:Int) (s:ByteArray) (lv:Value) (e el:Int) (bx:Nat) (w:World) (hc:w.cell? ⟨bx,4,none⟩=some (.int .i64 el)) (hb:bx<w.heap.size):
 Calls Tryd.prog 72 #[.agg #[.int .i64 k,.int .u64 m,.string s,lv,.int .i64 e],.pointer (some ⟨bx,0,none⟩)] w fun r w'=>r= .returned (.bool (decide (k≠el)))∧Grows w w':=by
 go_enter Tryd.func72,Tryd.ntmps72
 go_wp2
 go_ret
 refine ⟨ret_bool ?_,(Grows.refl _).alloc _⟩
 rw [Bool.eq_iff_iff];simp
theorem index_any {N B:Nat} {lv:Value} {l:List VT} (el:Int) (bx:Nat) (w:World) (hl:LAt B w N lv l) (hB:B≤w.heap.size) (hc:w.cell? ⟨bx,4,none⟩=some (.int .i64 el)) (hb:bx<w.heap.size):
 Calls Tryd.prog 83 #[lv,othFn bx] w fun r w'=>r= .returned (.int .i64 (otherI l el))∧Grows w w':=by
 have HL:=Lib.hid hl
 obtain ⟨p,c,rfl⟩:=hl.slice
 have hlen:l.length≤9223372036854775807:=hl.len
 clear hl
 obtain ⟨n,hn⟩:∃ n,l.length=n:=⟨_,rfl⟩
 have Hn:=Lib.hid hn
 rw [hn] at hlen HL ⊢
 clear hn
 go_enter Tryd.func83,Tryd.ntmps83
 go_wp2
 go_loopw [8] (fun i wr=>∃ (j:Nat),i= .int .i64 j∧j≤n∧Hid (∀ i u,i<j→l[i]? =some u→u.kind=el)∧Grows w wr) (fun i _=>n-(intOf i).toNat)
 case atStart=>exact ⟨0,rfl,Nat.zero_le _,fun i u h=>by omega,Grows.refl _⟩
 case round=>
  obtain ⟨j,rfl,hj,HQ,hg⟩:=hrel
  have HG:=Lib.hid hg
  have hcw:wr.cell? ⟨bx,4,none⟩=some (.int .i64 el):=(hg.below.cell (p:=⟨bx,4,none⟩) hb).trans hc
  have hbw:=hg.below.mono hB
  have hzw:=hg.size
  clear hg
  by_cases hlt:j<n
  ·cases N with
   |zero=>exact HL.out.elim
   |succ N=>
    rcases HL.out with ⟨h0,_⟩|⟨b,off,c0,hp,hbB,_,hel⟩
    ·rw [←Hn.out,h0] at hlt;exact absurd hlt (by simp)
    rw [Hn.out] at hp
    cases hp
    obtain ⟨t,ht⟩:∃ t,l[j]? =some t:=⟨_,List.getElem?_eq_getElem (by rw [Hn.out];exact hlt)⟩
    obtain ⟨hf,lv,hat,hl⟩:=hel j t ht
    obtain ⟨e0,e1,e2,e3,e4⟩:=hat.below hbw hbB
    have hi0:(0:Int)≤(j:Int):=by omega
    have hi1:(j:Int)<(n:Int):=by omega
    have HT:=Lib.hid ht
    clear hel hat hl ht
    by_cases hk:t.kind=el
    ·have hd:decide (t.kind≠el)=false:=by simp [hk]
     have HK:=Lib.hid hk
     have HC:=Lib.hid (oth_any t.kind t.num t.text lv t.elem el bx wr hcw (by omega))
     rw [hd] at HC
     clear hk hd
     go_wp2_with (go_at_call 72;refine HC.out.mono ?_;rintro r w2 ⟨rfl,hg2⟩)
     go_roundw
     case rel=>exact ⟨j+1,by go_num,by omega,fun i u hi hu=>by
      by_cases h:i=j
      ·rw [h,HT.out] at hu;cases hu;exact HK.out
      ·exact HQ.out i u (by omega) hu,HG.out.trans hg2⟩
     case measure=>simp [intOf];omega
    ·have hd:decide (t.kind≠el)=true:=by simp [hk]
     have HI:=Lib.hid (otherI_hit HT.out hk HQ.out)
     have HC:=Lib.hid (oth_any t.kind t.num t.text lv t.elem el bx wr hcw (by omega))
     rw [hd] at HC
     clear hk hd
     go_wp2_with (go_at_call 72;refine HC.out.mono ?_;rintro r w2 ⟨rfl,hg2⟩)
     go_ret
     exact ⟨ret_i HI.out.symm,HG.out.trans hg2⟩
  ·obtain rfl:j=n:=by omega
   go_wp2
   go_ret
   exact ⟨ret_i (otherI_none fun i u hi hu=>HQ.out i u (by rw [←Hn.out];exact hi) hu).symm,HG.out⟩
theorem contains_any {N B:Nat} {lv:Value} {l:List VT} (el:Int) (bx:Nat) (w:World) (hl:LAt B w N lv l) (hB:B≤w.heap.size) (hc:w.cell? ⟨bx,4,none⟩=some (.int .i64 el)) (hb:bx<w.heap.size):
 Calls Tryd.prog 71 #[lv,othFn bx] w fun r w'=>r= .returned (.bool (!(l.all fun t=>decide (t.kind=el))))∧Grows w w':=by
 have HC:=Lib.hid (index_any el bx w hl hB hc hb)
 have HA:=Lib.hid (otherI_all l el)
 obtain ⟨R,hR⟩:∃ R,(!(l.all fun t=>decide (t.kind=el)))=R:=⟨_,rfl⟩
 obtain ⟨p,c,rfl⟩:=hl.slice
 rw [hR] at HA ⊢
 obtain ⟨I,hI⟩:∃ I,otherI l el=I:=⟨_,rfl⟩
 rw [hI] at HA HC
 clear hl hR hI
 go_enter Tryd.func71,Tryd.ntmps71
 go_wp2_with (go_at_call 83;refine HC.out.mono ?_;rintro r w2 ⟨rfl,hg2⟩)
 go_ret
 exact ⟨ret_bool HA.out,hg2⟩
theorem array_raw {N B:Nat} (k m:Int) (s:ByteArray) (lv:Value) (e:Int) (l:List VT) (w:World) (hl:LAt B w N lv l) (hB:B≤w.heap.size):
 Calls Tryd.prog 58 #[.agg #[.int .i64 k,.int .u64 m,.string s,lv,.int .i64 e]] w fun r w'=>r= .returned (.bool (arrT e l))∧Grows w w':=by
 obtain ⟨p,c,rfl⟩:=hl.slice
 have HL:=Lib.hid hl
 clear hl
 by_cases he:0<e∧e<24
 ·obtain ⟨h0,h1⟩:=he
  obtain ⟨W1,hW1⟩:∃ W1,w.alloc (.cells #[.int .i64 k,.int .u64 m,.string s,.slice p l.length c,.int .i64 e] 26)=W1:=⟨_,rfl⟩
  have hg1:Grows w W1:=by rw [←hW1];exact (Grows.refl _).alloc _
  have HC:=Lib.hid (contains_any e w.heap.size W1 (HL.out.below (hg1.below.mono hB)) (by have:=hg1.size;omega) (by rw [←hW1];simp) (by rw [←hW1];simp))
  rw [←hW1] at HC hg1
  have HG:=Lib.hid hg1
  clear hW1 hg1
  have HR:Hid (arrT e l=l.all fun t=>decide (t.kind=e)):=by show arrT e l=_;simp [arrT,h0,h1]
  obtain ⟨R,hR⟩:∃ R,(l.all fun t=>decide (t.kind=e))=R:=⟨_,rfl⟩
  rw [hR] at HC HR
  rw [HR.out]
  clear hR
  go_enter Tryd.func58,Tryd.ntmps58
  go_wp2_with (go_at_call 71;refine HC.out.mono ?_;rintro r w2 ⟨rfl,hg2⟩)
  go_ret
  exact ⟨ret_bool (by simp),HG.out.trans hg2⟩
 ·have HR:Hid (arrT e l=false):=by
   show arrT e l=false
   unfold arrT
   by_cases h0:0<e
   ·have h1:¬e<24:=fun h=>he ⟨h0,h⟩
    simp [h1]
   ·simp [h0]
  rw [HR.out]
  have he':e≤0∨24≤e:=by omega
  clear he
  rcases he' with h|h
  all_goals
   go_enter Tryd.func58,Tryd.ntmps58
   go_wp2
   all_goals first
    |(go_ret;exact ⟨rfl,(Grows.refl _).alloc _⟩)
    |(exfalso;omega)
end Go.Proofs.YtfoiaiblggapeaaDoor.Va
namespace Go.Proofs.YtfoiaiblggapeaaDoor.Va
open Go Go.RowKit Go.Shelf Go.Sort Nu
theorem below_sort {α:Type} [Inhabited α] (enc:α→List Value) (k:Nat) (w:World) (B blk off m:Nat) (dk:Array α) (os:Array Obj) (hB:B≤blk) (hblk:blk<w.heap.size):Below B w (sortWorldK enc k w blk off m dk os):=by
 refine ⟨rfl,rfl,rfl,size_sortWorldK_c enc k w blk off m dk os,fun j hj=>?_⟩
 have h1:(sortWorldK enc k w blk off m dk os).heap=w.heap.modify blk (onCells (putCells id off (flatK enc k dk)))++os:=rfl
 rw [h1,Array.getElem?_append_left (by rw [Array.size_modify];omega),Array.getElem?_modify,if_neg (by omega)]
abbrev Elt (B:Nat) (w:World) (N:Nat):Type:={x:VT×Value // LAt B w N x.2 x.1.list}
def eltEnc {B:Nat} {w:World} {N:Nat} (x:Elt B w N):List Value:=x.1.1.cells x.1.2
def eltCmp {B:Nat} {w:World} {N:Nat} (x y:Elt B w N):Int:=ordT x.1.1 y.1.1
theorem elt_swo {B:Nat} {w:World} {N:Nat}:SWO (ltOf (eltCmp (B:=B) (w:=w) (N:=N))) where
 irrefl x:=(swo_lin lin_ord).irrefl x.1.1
 trans x y z:=(swo_lin lin_ord).trans x.1.1 y.1.1 z.1.1
 ntrans x y z:=(swo_lin lin_ord).ntrans x.1.1 y.1.1 z.1.1
theorem elt_one {B:Nat} {w:World} {N:Nat} (x:Elt B w N):∀ v∈eltEnc x,v.oneCell'=true:=by
 obtain ⟨⟨t,lv⟩,h⟩:=x
 obtain ⟨p,c,hs⟩:=LAt.slice h
 intro v hv
 simp only [eltEnc,VT.cells,List.mem_cons,List.not_mem_nil,or_false] at hv
 have hs':lv= .slice p t.list.length c:=hs
 rcases hv with rfl|rfl|rfl|rfl|rfl
 ·rfl
 ·rfl
 ·rfl
 ·rw [hs'];rfl
 ·rfl
theorem order_lays {B:Nat} {w:World} {N:Nat} [Inhabited (Elt B w N)] (blk size:Nat) (hB:B≤blk) (hblk:blk<w.heap.size):CmpLays Tryd.prog 70 #[] (eltEnc (B:=B) (w:=w) (N:=N)) 5 eltCmp blk 0 size w:=by
 intro m os dk _ x y
 have hb:=below_sort (eltEnc (B:=B) (w:=w) (N:=N)) 5 w B blk 0 m dk os hB hblk
 have hsz:B≤(sortWorldK (eltEnc (B:=B) (w:=w) (N:=N)) 5 w blk 0 m dk os).heap.size:=by have:=hb.size;omega
 have:=order_of (cmps N) B x.1.1.kind x.1.1.num x.1.1.text x.1.1.elem x.1.1.list x.1.2 y.1.1.kind y.1.1.num y.1.1.text y.1.1.elem y.1.1.list y.1.2 _ (x.2.below hb) (y.2.below hb) hsz
 rw [VT.eta,VT.eta] at this
 exact this
def RowAt (w:World) (g:Nat) (d:List (VT×Value)):Prop:=∀ i x,d[i]? =some x→At5 w g (i*5) x.1 x.2
def Sorted (B:Nat) (w:World) (N g:Nat) (d:List (VT×Value)) (r:Ending) (w':World):Prop:=
 r= .returned (.tuple #[])∧∃ d':List (VT×Value),(d'.map (·.1)).Perm (d.map (·.1))∧(∀ (i j:Nat) x y,i<j→d'[i]? =some x→d'[j]? =some y→0≤ordT y.1 x.1)∧RowAt w' g d'∧(∀ x∈d',LAt B w' N x.2 x.1.list)∧d'.length=d.length∧Below B w w'
theorem elts_of {B:Nat} {w:World} {N:Nat}:∀ (d:List (VT×Value)),(∀ x∈d,LAt B w N x.2 x.1.list)→∃ es:List (Elt B w N),es.map (·.1)=d
 |[],_=>⟨[],rfl⟩
 |x::d,h=>by
  obtain ⟨es,hes⟩:=elts_of d fun y hy=>h y (List.mem_cons_of_mem _ hy)
  exact ⟨⟨x,h x List.mem_cons_self⟩::es,by simp [hes]⟩
theorem sort_any {B:Nat} {w:World} {N:Nat} (g cap:Nat) (d:List (VT×Value)) (hd:∀ x∈d,LAt B w N x.2 x.1.list) (h0:0<d.length) (hB:B≤g) (hg:g<w.heap.size) (hrow:RowAt w g d) (hfz:∀ j,j<d.length*5→w.frozen? ⟨g,j,none⟩=false) (hlen:d.length<4611686018427387904):
 Calls Tryd.prog 69 #[.slice (some ⟨g,0,none⟩) d.length cap,ordFn] w (Sorted B w N g d):=by
 obtain ⟨es,hes⟩:=elts_of d hd
 have hel:es.length=d.length:=by rw [←hes];simp
 letI:Inhabited (Elt B w N):=⟨es[0]'(by omega)⟩
 have hget:∀ i (hi:i<d.length),(es.toArray[i]!).1=d[i]:=by
  intro i hi
  have h1:es.toArray[i]! =es[i]'(by omega):=by
   rw [getElem!_pos es.toArray i (by simp;omega)];simp
  rw [h1]
  have:(es.map (·.1))[i]'(by simp;omega)=d[i]:=by congr 1
  simpa using this
 have hH:HoldsK (eltEnc (B:=B) (w:=w) (N:=N)) 5 w g 0 es.toArray:=by
  intro j hj
  rw [size_flatK] at hj
  have hsz:es.toArray.size=d.length:=by simp [hel]
  rw [hsz] at hj
  have hi:j/5<d.length:=by omega
  refine ⟨?_,by rw [Nat.zero_add];exact hfz j hj⟩
  rw [get_flatK _ _ _ _ (by rw [hsz];exact hj)]
  have hx:=hrow (j/5) (d[j/5]) (List.getElem?_eq_getElem hi)
  have he:eltEnc (es.toArray[j/5]!)=(d[j/5]).1.cells (d[j/5]).2:=by
   unfold eltEnc
   rw [hget _ hi]
  rw [he,Nat.zero_add]
  obtain ⟨c0,c1,c2,c3,c4⟩:=hx
  have hm:j%5<5:=Nat.mod_lt _ (by decide)
  have hj5:j=j/5*5+j%5:=by omega
  have key:∀ q,j%5=q→w.cell? ⟨g,j,none⟩=w.cell? ⟨g,j/5*5+q,none⟩:=fun q hq=>by rw [←hq,←hj5]
  match hq:j%5,hm with
  |0,_=>rw [key 0 hq];exact c0
  |1,_=>rw [key 1 hq];exact c1
  |2,_=>rw [key 2 hq];exact c2
  |3,_=>rw [key 3 hq];exact c3
  |4,_=>rw [key 4 hq];exact c4
 have hsz:es.toArray.size=d.length:=by simp [hel]
 have hcon:=AnyQ.slices_SortFunc Tryd.sort6 5 Tryd.isAgg26 Tryd.sizeOf26 (eltEnc (B:=B) (w:=w) (N:=N)) (fun _=>rfl) elt_one eltCmp elt_swo 70 #[] g 0 cap es.toArray w
  (enters_of Tryd.func70 (by kernel_rfl) rfl) (order_lays g _ hB hg) hH hg (by rw [hsz];exact hlen)
 rw [hsz] at hcon
 refine Calls.mono hcon ?_
 rintro r w' ⟨hr,d',n,os,hp,hs,rfl⟩
 have hb:=below_sort (eltEnc (B:=B) (w:=w) (N:=N)) 5 w B g 0 n d' os hB hg
 have hds:d'.size=d.length:=by rw [hp.1,hsz]
 have hH':=holdsK_sortWorldK_c (eltEnc (B:=B) (w:=w) (N:=N)) 5 w g 0 es.toArray d' n os hH hg hp.1
 have hget':∀ i (hi:i<d'.size),d'[i]! =d'[i]:=fun i hi=>getElem!_pos d' i hi
 refine ⟨hr,d'.toList.map (·.1),?_,?_,?_,?_,by simp [hds],hb⟩
 ·have h1:=hp.2.2
  rw [←hsz] at h1
  have e1:d'.extract 0 es.toArray.size=d':=by rw [←hp.1];simp
  have e2:es.toArray.extract 0 es.toArray.size=es.toArray:=by simp
  rw [e1,e2] at h1
  have h2:=(h1.map (fun x:Elt B w N=>x.1)).map (fun x:VT×Value=>x.1)
  simp only [] at h2
  rw [hes] at h2
  exact h2
 ·intro i j x y hij hx hy
  rw [List.getElem?_map] at hx hy
  obtain ⟨a,ha,rfl⟩:=Option.map_eq_some_iff.1 hx
  obtain ⟨b,hb',rfl⟩:=Option.map_eq_some_iff.1 hy
  rw [Array.getElem?_toList] at ha hb'
  have hj:=(Array.getElem?_eq_some_iff.1 hb').1
  have hi:=(Array.getElem?_eq_some_iff.1 ha).1
  have:=hs i j (Nat.zero_le _) hij (by rw [hds] at hj;exact hj)
  rw [hget' i hi,hget' j hj,(Array.getElem?_eq_some_iff.1 ha).2,(Array.getElem?_eq_some_iff.1 hb').2] at this
  have h3:decide (ordT b.1.1 a.1.1<0)=false:=this
  simp only [decide_eq_false_iff_not] at h3
  omega
 ·intro i x hx
  rw [List.getElem?_map] at hx
  obtain ⟨a,ha,rfl⟩:=Option.map_eq_some_iff.1 hx
  rw [Array.getElem?_toList] at ha
  have hi:=(Array.getElem?_eq_some_iff.1 ha).1
  have hai:d'[i]! =a:=by rw [hget' i hi];exact (Array.getElem?_eq_some_iff.1 ha).2
  have hc:∀ c,c<5→(sortWorldK (eltEnc (B:=B) (w:=w) (N:=N)) 5 w g 0 n d' os).cell? ⟨g,i*5+c,none⟩=some (eltEnc a)[c]! :=fun c hc=>by
   have:=(HoldsK.cell hH' hi hc).1
   rw [hai,Nat.zero_add] at this
   exact this
  exact ⟨hc 0 (by omega),hc 1 (by omega),hc 2 (by omega),hc 3 (by omega),hc 4 (by omega)⟩
 ·intro x hx
  obtain ⟨a,_,rfl⟩:=List.mem_map.1 hx
  exact a.2.below hb
end Go.Proofs.YtfoiaiblggapeaaDoor.Va
namespace Go.Proofs.YtfoiaiblggapeaaDoor.Va
open Go Go.RowKit Go.Shelf Go.Sort Nu
attribute [local go_sem ↓] Go.wp_at_zero Go.wp_at_succ
theorem infoV:(Tryd.prog.info? 26).map (fun i=>(i.zero,i.size,i.bytes))=some (some (.agg #[.int .i64 0,.int .u64 0,.string ⟨#[]⟩,.slice none 0 0,.int .i64 0]),5,64):=by kernel_rfl
theorem sort_none (p:Option Addr) (cap:Nat) (w:World):Calls Tryd.prog 69 #[.slice p 0 cap,ordFn] w fun r w'=>r= .returned (.tuple #[])∧w'=w:=
 AnyF.slices_SortFunc_none Tryd.sort6 p cap ordFn w
theorem sort_all {B:Nat} {w:World} {N:Nat} (g cap:Nat) (d:List (VT×Value)) (hd:∀ x∈d,LAt B w N x.2 x.1.list) (hB:B≤g) (hg:g<w.heap.size) (hrow:RowAt w g d) (hfz:∀ j,j<d.length*5→w.frozen? ⟨g,j,none⟩=false) (hlen:d.length<4611686018427387904):
 Calls Tryd.prog 69 #[.slice (some ⟨g,0,none⟩) d.length cap,ordFn] w (Sorted B w N g d):=by
 by_cases h0:0<d.length
 ·exact sort_any g cap d hd h0 hB hg hrow hfz hlen
 ·obtain rfl:d=[]:=List.length_eq_zero_iff.1 (by omega)
  refine Calls.mono (sort_none _ cap w) ?_
  rintro r w' ⟨rfl,rfl⟩
  exact ⟨rfl,[],by simp,fun i j x y _ hx=>by simp at hx,fun i x hx=>by simp at hx,by simp,rfl,Below.refl _ _⟩
def cellsP (d:List (VT×Value)):List Value:=d.flatMap fun x=>x.1.cells x.2
theorem cellsP_length (d:List (VT×Value)):(cellsP d).length=d.length*5:=by
 induction d with
 |nil=>rfl
 |cons x d ih=>simp only [cellsP,List.flatMap_cons,List.length_append,List.length_cons] at ih ⊢;rw [ih];simp [VT.cells];omega
theorem cellsP_snoc (d:List (VT×Value)) (t:VT) (lv:Value):cellsP (d++[(t,lv)])=cellsP d++t.cells lv:=by simp [cellsP]
theorem cellsP_get:∀ (d:List (VT×Value)) (i:Nat) (x:VT×Value) (c:Nat),d[i]? =some x→c<5→(cellsP d)[i*5+c]? =(x.1.cells x.2)[c]?
 |[],i,x,c,h,_=>by simp at h
 |y::d,0,x,c,h,hc=>by
  simp at h;subst h
  simp only [cellsP,List.flatMap_cons,Nat.zero_mul,Nat.zero_add]
  rw [List.getElem?_append_left (by simpa [VT.cells] using hc)]
 |y::d,i+1,x,c,h,hc=>by
  have:=cellsP_get d i x c (by simpa using h) hc
  simp only [cellsP,List.flatMap_cons] at this ⊢
  rw [List.getElem?_append_right (by simp [VT.cells];omega)]
  rw [show (i+1)*5+c-(y.1.cells y.2).length=i*5+c by simp [VT.cells];omega]
  exact this
theorem row_open {w:World} {base:Nat} {v:Value} {d:List (VT×Value)} (h:w.ownsRow base 26 5 v d.length (cellsP d)):v= .slice none 0 0∧d=[]∨∃ g cap,v= .slice (some ⟨g,0,none⟩) d.length cap∧base≤g∧g<w.heap.size∧RowAt w g d∧∀ j,j<d.length*5→w.frozen? ⟨g,j,none⟩=false:=by
 rcases h.2 with ⟨rfl,h0⟩|⟨g,cap,cur,rfl,hb,hh,h1,h2,h3,h4⟩
 ·exact .inl ⟨rfl,List.length_eq_zero_iff.1 h0⟩
 ·refine .inr ⟨g,cap,rfl,hb,(Array.getElem?_eq_some_iff.1 hh).1,fun i x hx=>?_,fun j hj=>?_⟩
  ·have key:∀ c,c<5→w.cell? ⟨g,i*5+c,none⟩=(x.1.cells x.2)[c]? :=fun c hc=>by
    have hi:=(List.getElem?_eq_some_iff.1 hx).1
    have e1:w.cell? ⟨g,i*5+c,none⟩=cur[i*5+c]? :=by unfold World.cell?;rw [hh];rfl
    rw [e1,←Array.getElem?_toList,←cellsP_get d i x c hx hc,←h4,List.getElem?_take,if_pos (by omega)]
   exact ⟨key 0 (by omega),key 1 (by omega),key 2 (by omega),key 3 (by omega),key 4 (by omega)⟩
  ·unfold World.frozen?
   rw [hh]
   simp
theorem one5 {B:Nat} {w:World} {N:Nat} {t:VT} {lv:Value} (h:LAt B w N lv t.list):∀ u∈t.cells lv,u.oneCell'=true:=by
 obtain ⟨p,c,rfl⟩:=h.slice
 intro u hu
 simp only [VT.cells,List.mem_cons,List.not_mem_nil,or_false] at hu
 rcases hu with rfl|rfl|rfl|rfl|rfl<;>rfl
theorem add_off (b off j:Nat):(⟨b,off,none⟩:Addr).add j=⟨b,off+j,none⟩:=by
 unfold Addr.add
 split
 ·rename_i h;subst h;rfl
 ·rfl
theorem cells_new (w:World) (l:List Value) (t:TypeId):∀ j u,l[j]? =some u→(w.alloc (.cells l.toArray t)).cell? ((⟨w.heap.size,0,none⟩:Addr).add j)=some u:=by
 intro j u hu
 rw [add_off,Nat.zero_add,World.cell?_alloc_new]
 simpa using hu
theorem more_keys {d':List (VT×Value)} {q:Nat} {a b:VT×Value} (h:∀ (k:Nat) x y,k<q→d'[k]? =some x→d'[k+1]? =some y→ordT x.1 y.1≠0) (ha:d'[q]? =some a) (hb:d'[q+1]? =some b) (hab:ordT a.1 b.1≠0):∀ (k:Nat) x y,k<q+1→d'[k]? =some x→d'[k+1]? =some y→ordT x.1 y.1≠0:=fun k x y hk hx hy=>by
 by_cases e:k=q
 ·subst e
  rw [ha] at hx;rw [hb] at hy
  cases hx;cases hy
  exact hab
 ·exact h k x y (by omega) hx hy
structure Keys (B:Nat) (w:World) (N:Nat) (l:List VT) (j:Nat) (v:Value) (wr:World) (d:List (VT×Value)):Prop where
 len:d.length=j
 keys:d.map (·.1)=(keysOf l).take j
 own:wr.ownsRow w.heap.size 26 5 v d.length (cellsP d)
 there:v≠ .slice none 0 0
 lists:∀ x∈d,LAt B w N x.2 x.1.list
 below:Below w.heap.size w wr
theorem Keys.step {B:Nat} {w:World} {N:Nat} {l:List VT} {j:Nat} {v:Value} {wr:World} {d:List (VT×Value)} (h:Keys B w N l j v wr d) {t:VT} {lv:Value} (ht:l[2*j]? =some t) (hl:LAt B w N lv t.list) {he:l.length%2=0} {o:Obj} {v':Value} {w2:World}
 (hown:w2.ownsRow w.heap.size 26 5 v' (d.length+1) (cellsP d++t.cells lv)) (hgr:(wr.alloc o).grownBy w2 v.ownBlock) (hnil:¬v'= .slice none 0 0):Keys B w N l (j+1) v' w2 (d++[(t,lv)]):=by
 refine ⟨by simp [h.len],?_,by rw [List.length_append,cellsP_snoc];exact hown,hnil,fun x hx=>?_,?_⟩
 ·have hk:(keysOf l)[j]? =some t:=by rw [keysOf_get l j he];exact ht
  rw [List.map_append,h.keys,List.take_add_one,hk]
  rfl
 ·rcases List.mem_append.1 hx with hx|hx
  ·exact h.lists x hx
  ·simp at hx;subst hx;exact hl
 ·refine (h.below.alloc h.below.size _).grown hgr (by have:=h.below.size;simp;omega) fun k hk=>?_
  rcases h.own.2 with ⟨rfl,_⟩|⟨g,cap,cur,rfl,hg,_⟩
  ·simp [Value.ownBlock] at hk
  ·simp [Value.ownBlock] at hk;omega
theorem map_even {N B:Nat} (lv:Value) (l:List VT) (c:Nat) (w:World) (hl:LAt B w N lv l) (hB:B≤w.heap.size) (hn:l.length=2*c) (hc:c≤1024):
 Calls Tryd.prog 57 #[lv] w fun r w'=>r= .returned (.bool (mapT l))∧Below w.heap.size w w':=by
 obtain ⟨i0,hi0,hz0,hz1,hz2⟩:=info_parts infoV
 obtain ⟨w1,hmk,hown0,hg0⟩:=run_make_own (P:=Tryd.prog) (w:=w) w.heap.size 24 26 i0 _ 5 Tryd.underlying24 hi0 hz0 hz1 .i64 .i64 c (by rw [hz2];omega) (by unfold maxLen;omega) (Nat.le_refl _)
 have HL:=Lib.hid hl
 obtain ⟨p,cc,rfl⟩:=hl.slice
 have Hn:=Lib.hid hn
 rw [hn] at HL ⊢
 clear hl hn
 go_enter Tryd.func57,Tryd.ntmps57
 go_wp2
 have HK0:Keys B w N l 0 (.slice (some ⟨w.heap.size,0,none⟩) 0 c) w1 []:=⟨rfl,by simp,hown0,by simp,by simp,(Below.refl _ _).grown hg0 (Nat.le_refl _) (by simp)⟩
 clear hmk hown0 hg0
 go_loopw [3,4] (fun v i wr=>∃ (j:Nat) (d:List (VT×Value)),i= .int .i64 (2*(j:Int))∧j≤c∧Keys B w N l j v wr d) (fun _ i _=>2*c-(intOf i).toNat)
 case atStart=>exact ⟨0,[],rfl,Nat.zero_le _,HK0⟩
 case round=>
  obtain ⟨j,d,rfl,hj,HK⟩:=hrel
  have hlenk:(keysOf l).length=c:=by rw [keysOf_length l (by rw [Hn.out];omega),Hn.out];omega
  have HLk:=Lib.hid hlenk
  clear hlenk
  by_cases hlt:j<c
  ·cases N with
   |zero=>exact HL.out.elim
   |succ N=>
    rcases HL.out with ⟨h0,_⟩|⟨b,off,c0,hp,hbB,_,hel⟩
    ·have:=Hn.out;rw [h0] at this;simp at this;omega
    rw [Hn.out] at hp
    cases hp
    obtain ⟨t,ht⟩:∃ t,l[2*j]? =some t:=⟨_,List.getElem?_eq_getElem (by rw [Hn.out];omega)⟩
    obtain ⟨hf,lv,hat,hl⟩:=hel (2*j) t ht
    obtain ⟨pe,ce,rfl⟩:=hl.slice
    have hbw:=HK.below.mono hB
    have hzw:=HK.below.size
    obtain ⟨e0,e1,e2,e3,e4⟩:=hat.below hbw hbB
    have hj0:(0:Int)≤2*(j:Int):=by omega
    have hj1:2*(j:Int)<2*(c:Int):=by omega
    have HT:=Lib.hid ht
    have HLe:=Lib.hid hl
    have HO:=Lib.hid HK.own
    have hone:=one5 hl
    have hones:=Lib.hid hone
    have hdl:=HK.len
    have HKK:=Lib.hid HK
    have hb3:b<wr.heap.size:=by omega
    clear hel hat hl ht HK hone
    have hdj:d.length≤1024:=by omega
    have Hdl:=Lib.hid hdl
    clear hdl
    go_wp2_with (at_builtin;go_must (refine wpList_append_own _ rfl (.tmp 25) (.tmp 30) _ rfl w.heap.size 26 i0 _ 5 64 Tryd.underlying24 hi0 hz0 hz1 hz2 rfl (by decide) u3 d.length (cellsP d) rfl (HO.out.alloc _) ⟨wr.heap.size,0,none⟩ 1 1 (t.cells (.slice pe t.list.length ce)) rfl rfl ?_ hones.out ?_ ?_ ?_ ?_))
    ·exact cells_new wr (t.cells (.slice pe t.list.length ce)) 26
    ·unfold maxLen;omega
    ·omega
    ·simp;omega
    intro v' w2 hown2 hgr2 hnil
    have hK2:=HKK.out.step (he:=by rw [Hn.out];omega) HT.out (HLe.out.mono (Nat.le_succ _)) hown2 hgr2 hnil
    have HK2:=Lib.hid hK2
    clear hown2 hgr2 hnil hK2
    go_wp2
    go_roundw
    case rel=>exact ⟨j+1,_,by go_num,by omega,HK2.out⟩
    case measure=>simp [intOf];omega
  ·obtain rfl:j=c:=by omega
   rcases row_open HK.own with ⟨h0,_⟩|⟨g,cap,hv,hgb,hgw,hrow,hfz⟩
   ·exact absurd h0 HK.there
   subst hv
   have hdl:=HK.len
   have hkeys:d.map (·.1)=keysOf l:=by rw [HK.keys,←HLk.out,List.take_length]
   have hlw:∀ x∈d,LAt w.heap.size wr N x.2 x.1.list:=fun x hx=>((HK.lists x hx).up hB).below HK.below
   have HS:=Lib.hid (sort_all g cap d hlw hgb hgw hrow hfz (by omega))
   have HBW:=Lib.hid HK.below
   rw [hdl] at HS ⊢
   have Hkeys:=Lib.hid hkeys
   have Hdl:=Lib.hid hdl
   clear hkeys hdl hlw hrow hfz HK hlt
   go_wp2_with (go_at_call 69;refine HS.out.mono ?_;rintro r w2 ⟨rfl,d',hperm,hsort,hrow',hlists',hlen',hb2⟩)
   have hN:mapT l=mapT l:=rfl
   have Hperm:=Lib.hid hperm
   have Hsort:=Lib.hid hsort
   have Hrow:=Lib.hid hrow'
   have Hlists:=Lib.hid hlists'
   have Hlen:Hid (d'.length=j):=by show d'.length=j;rw [hlen',Hdl.out]
   have Hb2:Hid (Below w.heap.size w w2):=HBW.out.trans hb2
   clear hperm hsort hrow' hlists' hlen' hN
   have hgw2:g<w2.heap.size:=Nat.lt_of_lt_of_le hgw hb2.size
   clear hb2
   go_loopw [5] (fun i wr=>∃ (q:Nat),i= .int .i64 ((q:Int)+1)∧q≤j∧Hid (∀ (k:Nat) x y,k<q→d'[k]? =some x→d'[k+1]? =some y→ordT x.1 y.1≠0)∧Below w2.heap.size w2 wr) (fun i _=>j+1-(intOf i).toNat)
   case atStart=>exact ⟨0,rfl,by omega,fun q x y h=>by omega,Below.refl _ _⟩
   case round=>
    obtain ⟨q,rfl,hq,HQ,hb3⟩:=hrel
    have HB3:=Lib.hid hb3
    have hz3:=hb3.size
    by_cases hlt:q+1<j
    ·obtain ⟨⟨x,xv⟩,hx⟩:∃ x,d'[q]? =some x:=⟨_,List.getElem?_eq_getElem (by rw [Hlen.out];omega)⟩
     obtain ⟨⟨y,yv⟩,hy⟩:∃ y,d'[q+1]? =some y:=⟨_,List.getElem?_eq_getElem (by rw [Hlen.out];omega)⟩
     obtain ⟨e0,e1,e2,e3,e4⟩:=(Hrow.out q _ hx).below hb3 hgw2
     obtain ⟨f0,f1,f2,f3,f4⟩:=(Hrow.out (q+1) _ hy).below hb3 hgw2
     simp only at e0 e1 e2 e3 e4 f0 f1 f2 f3 f4
     have hlx:=Hlists.out _ (List.mem_of_getElem? hx)
     have hly:=Hlists.out _ (List.mem_of_getElem? hy)
     simp only at hlx hly
     have HLA:Hid (∀ w',Below wr.heap.size wr w'→LAt w.heap.size w' N xv x.list∧LAt w.heap.size w' N yv y.list∧w.heap.size≤w'.heap.size):=fun w' h=>
      have hh:Below w.heap.size w2 w':=(hb3.mono Hb2.out.size).trans (h.mono (by have:=Hb2.out.size;omega))
      ⟨hlx.below hh,hly.below hh,by have:=hh.size;have:=Hb2.out.size;omega⟩
     have hi0:(0:Int)≤(q:Int):=by omega
     have hi1:(q:Int)+1<(j:Int):=by omega
     have hi2:(0:Int)≤(q:Int)+1:=by omega
     have hi3:(q:Int)<(j:Int):=by omega
     have hgr:g<wr.heap.size:=by omega
     have HALL:Hid (∀ w',Below wr.heap.size wr w'→(Below wr.heap.size wr w'∧
      w'.cell? ⟨g,q*5,none⟩=some (.int .i64 x.kind)∧w'.cell? ⟨g,q*5+1,none⟩=some (.int .u64 x.num)∧w'.cell? ⟨g,q*5+2,none⟩=some (.string x.text)∧w'.cell? ⟨g,q*5+3,none⟩=some xv∧w'.cell? ⟨g,q*5+4,none⟩=some (.int .i64 x.elem)∧
      w'.cell? ⟨g,(q+1)*5,none⟩=some (.int .i64 y.kind)∧w'.cell? ⟨g,(q+1)*5+1,none⟩=some (.int .u64 y.num)∧w'.cell? ⟨g,(q+1)*5+2,none⟩=some (.string y.text)∧w'.cell? ⟨g,(q+1)*5+3,none⟩=some yv∧w'.cell? ⟨g,(q+1)*5+4,none⟩=some (.int .i64 y.elem))):=fun w' h=>
      have k:∀ o,w'.cell? ⟨g,o,none⟩=wr.cell? ⟨g,o,none⟩:=fun o=>h.cell (p:=⟨g,o,none⟩) hgr
      ⟨h,(k _).trans e0,(k _).trans e1,(k _).trans e2,(k _).trans e3,(k _).trans e4,(k _).trans f0,(k _).trans f1,(k _).trans f2,(k _).trans f3,(k _).trans f4⟩
     obtain ⟨X,hX⟩:∃ X,ordT x y=X:=⟨_,rfl⟩
     have HX:=Lib.hid hX
     have Hx:=Lib.hid hx
     have Hy:=Lib.hid hy
     have HC:Hid (∀ w',Below wr.heap.size wr w'→Calls Tryd.prog 70 #[.agg #[.int .i64 x.kind,.int .u64 x.num,.string x.text,xv,.int .i64 x.elem],.agg #[.int .i64 y.kind,.int .u64 y.num,.string y.text,yv,.int .i64 y.elem]] w' fun r w''=>r= .returned (.int .i64 X)∧Grows w' w''):=fun w' h=>by
      have hh:=HLA.out w' h
      have:=order_of (cmps N) w.heap.size x.kind x.num x.text x.elem x.list xv y.kind y.num y.text y.elem y.list yv w' hh.1 hh.2.1 hh.2.2
      rwa [VT.eta,VT.eta,hX] at this
     clear hx hy hX hlx hly HLA hb3
     have hw1:IntKind.i64.wrap ((q:Int)+1-1)=(q:Int):=by rw [IntKind.wrap_i64];omega
     have hw2:IntKind.i64.wrap (q:Int)=(q:Int):=by rw [IntKind.wrap_i64];omega
     have hw3:((q:Int)+1).toNat=q+1:=by omega
     go_wp2
     go_region_held3 (fun w'=>Below wr.heap.size wr w'∧
      w'.cell? ⟨g,q*5,none⟩=some (.int .i64 x.kind)∧w'.cell? ⟨g,q*5+1,none⟩=some (.int .u64 x.num)∧w'.cell? ⟨g,q*5+2,none⟩=some (.string x.text)∧w'.cell? ⟨g,q*5+3,none⟩=some xv∧w'.cell? ⟨g,q*5+4,none⟩=some (.int .i64 x.elem)∧
      w'.cell? ⟨g,(q+1)*5,none⟩=some (.int .i64 y.kind)∧w'.cell? ⟨g,(q+1)*5+1,none⟩=some (.int .u64 y.num)∧w'.cell? ⟨g,(q+1)*5+2,none⟩=some (.string y.text)∧w'.cell? ⟨g,(q+1)*5+3,none⟩=some yv∧w'.cell? ⟨g,(q+1)*5+4,none⟩=some (.int .i64 y.elem))
      (first
        |exact HALL.out _ (Below.refl _ _)
        |exact HALL.out _ (Below.refl _ _).drew
        |exact HALL.out _ ((Below.refl _ _).drew.trans hg4.below)
        |assumption)
      ((go_at_call 70;refine (HC.out _ (Below.refl _ _).drew).mono ?_;rintro r w4 ⟨rfl,hg4⟩))
     have HB4:Hid (Below w2.heap.size w2 w4):=HB3.out.trans (((Below.refl _ _).drew.trans hg4.below).mono hz3)
     clear hw1 hw2 hw3 HALL HC
     by_cases hn:X=0
     ·have HF:Hid (false=mapT l):=(map_no (by rw [Hn.out];omega) (by rw [Hn.out];omega) Hperm.out Hkeys.out Hsort.out Hx.out Hy.out (by rw [←hn];exact HX.out)).symm
      subst hn
      go_wp2
      go_ret
      exact ⟨ret_bool HF.out,Hb2.out.trans (HB4.out.mono Hb2.out.size)⟩
     ·have hb:(X==0)=false:=by simpa using hn
      have HNN:Hid (¬X=0):=hn
      clear hn
      go_wp2
      go_roundw
      case rel=>exact ⟨q+1,by go_num,by omega,more_keys HQ.out Hx.out Hy.out (by show ordT x y≠0;rw [HX.out];exact HNN.out),HB4.out⟩
      case measure=>simp [intOf];omega
    ·have HF:Hid (true=mapT l):=(map_yes (by rw [Hn.out];omega) (by rw [Hn.out];omega) Hperm.out Hkeys.out Hsort.out (fun k x y hx hy=>HQ.out k x y (by have:=(List.getElem?_eq_some_iff.1 hy).1;rw [Hlen.out] at this;omega) hx hy)).symm
     go_wp2
     go_ret
     exact ⟨ret_bool HF.out,Hb2.out.trans (HB3.out.mono Hb2.out.size)⟩
theorem map_any {N B:Nat} {lv:Value} {l:List VT} {w:World} (hl:LAt B w N lv l) (hB:B≤w.heap.size):
 Calls Tryd.prog 57 #[lv] w fun r w'=>r= .returned (.bool (mapT l))∧Below w.heap.size w w':=by
 by_cases h:l.length%2=0∧l.length≤2048
 ·exact map_even lv l (l.length/2) w hl hB (by omega) (by omega)
 ·have HF:Hid (false=mapT l):=by
   show false=mapT l
   unfold mapT
   by_cases h1:l.length%2=0
   ·have h2:¬l.length≤2048:=fun h2=>h ⟨h1,h2⟩
    simp [h2]
   ·simp [h1]
  obtain ⟨p,c,rfl⟩:=hl.slice
  have hlen:l.length≤9223372036854775807:=hl.len
  clear hl
  by_cases h1:l.length%2=0
  ·have h2:(2048:Int)<(l.length:Int):=by omega
   have h3:((l.length:Int)%2 !=0)=false:=by simp;omega
   clear h h1
   go_enter Tryd.func57,Tryd.ntmps57
   go_wp2
   go_ret
   exact ⟨ret_bool HF.out,Below.refl _ _⟩
  ·have h3:((l.length:Int)%2 !=0)=true:=by simp;omega
   clear h h1
   go_enter Tryd.func57,Tryd.ntmps57
   go_wp2
   go_ret
   exact ⟨ret_bool HF.out,Below.refl _ _⟩
end Go.Proofs.YtfoiaiblggapeaaDoor.Va
namespace Go.Proofs.YtfoiaiblggapeaaDoor.Va
open Go Go.RowKit Nu Uc
theorem box5 (w:World) (k m:Int) (s:ByteArray) (lv:Value) (e:Int) (T:TypeId) (w':World) (h:Below (w.heap.size+1) (w.alloc (.cells #[.int .i64 k,.int .u64 m,.string s,lv,.int .i64 e] T)) w'):
 w'.cell? ⟨w.heap.size,0,none⟩=some (.int .i64 k)∧w'.cell? ⟨w.heap.size,1,none⟩=some (.int .u64 m)∧w'.cell? ⟨w.heap.size,2,none⟩=some (.string s)∧w'.cell? ⟨w.heap.size,3,none⟩=some lv∧w'.cell? ⟨w.heap.size,4,none⟩=some (.int .i64 e):=by
 have key:∀ j u,([.int .i64 k,.int .u64 m,.string s,lv,.int .i64 e]:List Value)[j]? =some u→w'.cell? ⟨w.heap.size,j,none⟩=some u:=fun j u hu=>by
  rw [h.cell (p:=⟨w.heap.size,j,none⟩) (by simp),World.cell?_alloc_new]
  simpa using hu
 exact ⟨key 0 _ rfl,key 1 _ rfl,key 2 _ rfl,key 3 _ rfl,key 4 _ rfl⟩
theorem alone_raw {N B:Nat} (k m:Int) (s:ByteArray) (lv:Value) (e:Int) (l:List VT) (d:Int) (w:World) (hl:LAt B w N lv l) (hB:B≤w.heap.size) (hf:(VT.mk k m s e l).Fine) (hT:Tabs w):
 Calls Tryd.prog 37 #[.agg #[.int .i64 k,.int .u64 m,.string s,lv,.int .i64 e],.int .i64 d] w fun r w'=>r= .returned (.int .i64 (aloneT (.mk k m s e l) d))∧Below w.heap.size w w':=by
 obtain ⟨p,c,rfl⟩:=hl.slice
 have hlen:l.length≤9223372036854775807:=hl.len
 have HL:=Lib.hid hl
 have hm0:0≤m:=hf.n0
 have hm1:m≤18446744073709551615:=hf.n1
 have hs:s.size≤9223372036854775807:=hf.x1
 have HT:=Lib.hid hT
 clear hl hf hT
 obtain ⟨n,hn⟩:∃ n,l.length=n:=⟨_,rfl⟩
 obtain ⟨R,hR⟩:∃ R,aloneT (.mk k m s e l) d=R:=⟨_,rfl⟩
 have hR':=hR
 unfold aloneT at hR'
 simp only [VT.kind,VT.num,VT.text,VT.elem,VT.list,hn] at hR'
 obtain ⟨X1,hX1⟩:∃ X,extraT k m s e n=X:=⟨_,rfl⟩
 obtain ⟨X2,hX2⟩:∃ X,numT k m=X:=⟨_,rfl⟩
 obtain ⟨X3,hX3⟩:∃ X,textT k s=X:=⟨_,rfl⟩
 obtain ⟨X4,hX4⟩:∃ X,mapT l=X:=⟨_,rfl⟩
 obtain ⟨X5,hX5⟩:∃ X,arrT e l=X:=⟨_,rfl⟩
 rw [hX1,hX2,hX3,hX4,hX5] at hR'
 rw [hR]
 rw [hn] at HL hlen ⊢
 have HR:=Lib.hid hR'
 have HF:Hid (∀ w',Below (w.heap.size+1) (w.alloc (.cells #[.int .i64 k,.int .u64 m,.string s,.slice p n c,.int .i64 e] 26)) w'→LAt B w' N (.slice p n c) l∧B≤w'.heap.size∧Tabs w'∧Below w.heap.size w w'∧w.heap.size+1≤w'.heap.size):=fun w' h=>
  have hb:=below_boxed h
  ⟨HL.out.below (hb.mono hB),by have:=hb.size;omega,HT.out.below hb,hb,by have:=h.size;simp at this;exact this⟩
 have H1:Hid (∀ w',Calls Tryd.prog 54 #[.agg #[.int .i64 k,.int .u64 m,.string s,.slice p n c,.int .i64 e]] w' fun r w''=>r= .returned (.bool X1)∧Below w'.heap.size w' w''):=fun w'=>by
  have:=extra_raw k m s p n c e w' hlen;rwa [hX1] at this
 have H2:Hid (∀ w',Calls Tryd.prog 55 #[.agg #[.int .i64 k,.int .u64 m,.string s,.slice p n c,.int .i64 e]] w' fun r w''=>r= .returned (.bool X2)∧Below w'.heap.size w' w''):=fun w'=>by
  have:=num_raw k m s (.slice p n c) e w' hm0 hm1;rwa [hX2] at this
 have H3:Hid (∀ w',Tabs w'→Calls Tryd.prog 56 #[.agg #[.int .i64 k,.int .u64 m,.string s,.slice p n c,.int .i64 e]] w' fun r w''=>r= .returned (.bool X3)∧Below w'.heap.size w' w''):=fun w' h=>by
  have:=text_raw k m s (.slice p n c) e w' h hs;rwa [hX3] at this
 have H4:Hid (∀ w',LAt B w' N (.slice p n c) l→B≤w'.heap.size→Calls Tryd.prog 57 #[.slice p n c] w' fun r w''=>r= .returned (.bool X4)∧Below w'.heap.size w' w''):=fun w' h h'=>by
  have:=map_any h h';rwa [hX4] at this
 have H5:Hid (∀ w',LAt B w' N (.slice p n c) l→B≤w'.heap.size→Calls Tryd.prog 58 #[.agg #[.int .i64 k,.int .u64 m,.string s,.slice p n c,.int .i64 e]] w' fun r w''=>r= .returned (.bool X5)∧Below w'.heap.size w' w''):=fun w' h h'=>by
  have:=array_raw k m s (.slice p n c) e l w' h h';rw [hX5] at this
  exact this.mono fun _ _ ⟨a,b⟩=>⟨a,b.below⟩
 clear hX1 hX2 hX3 hX4 hX5 hR hR' HL HT hn
 by_cases hk:k<0∨24<k
 ·have HE:Hid (20=R):=by show 20=R;rw [←HR.out,if_pos hk]
  clear HR
  rcases hk with h|h
  all_goals
   go_enter Tryd.func37,Tryd.ntmps37
   go_wp2
   all_goals first
    |(go_ret;exact ⟨ret_i HE.out,(Below.refl _ _).alloc (Nat.le_refl _) _⟩)
    |(exfalso;omega)
 ·have HR1:Hid ((if 32<d then 26 else if X1 then 25 else if !X2 then 21 else if !X3 then 22 else if k=22∧X4=false then 23 else if k=23∧X5=false then 24 else if k=24∧n≠2 then 27 else 0)=R):=by
   show _=R
   rw [←HR.out,if_neg hk]
  have hk0:0≤k:=by omega
  have hk1:k≤24:=by omega
  clear HR hk
  by_cases hd:32<d
  ·have HE:Hid (26=R):=by show 26=R;rw [←HR1.out,if_pos hd]
   clear HR1
   go_enter Tryd.func37,Tryd.ntmps37
   go_wp2
   go_ret
   exact ⟨ret_i HE.out,(Below.refl _ _).alloc (Nat.le_refl _) _⟩
  ·have HR2:Hid ((if X1 then 25 else if !X2 then 21 else if !X3 then 22 else if k=22∧X4=false then 23 else if k=23∧X5=false then 24 else if k=24∧n≠2 then 27 else 0)=R):=by
    show _=R
    rw [←HR1.out,if_neg hd]
   clear HR1
   go_enter Tryd.func37,Tryd.ntmps37
   go_wp2_with (fail)
   obtain ⟨W1,hW1⟩:∃ W1,w.alloc (.cells #[.int .i64 k,.int .u64 m,.string s,.slice p n c,.int .i64 e] 26)=W1:=⟨_,rfl⟩
   have HBX:Hid (∀ w',Below (w.heap.size+1) W1 w'→(w'.cell? ⟨w.heap.size,0,none⟩=some (.int .i64 k)∧w'.cell? ⟨w.heap.size,1,none⟩=some (.int .u64 m)∧w'.cell? ⟨w.heap.size,2,none⟩=some (.string s)∧w'.cell? ⟨w.heap.size,3,none⟩=some (.slice p n c)∧w'.cell? ⟨w.heap.size,4,none⟩=some (.int .i64 e))):=by rw [←hW1];exact fun w' h=>box5 w k m s (.slice p n c) e _ w' h
   rw [hW1] at HF ⊢
   clear hW1
   refine (H1.out W1).mono ?_
   rintro r w2 ⟨rfl,hb2⟩
   have b2:Hid (Below (w.heap.size+1) W1 w2):=hb2.mono (by have:=(HF.out W1 (Below.refl _ _)).2.2.2.2;exact this)
   cases X1 with
   |true=>
    go_wp2
    go_ret
    exact ⟨ret_i (by rw [←HR2.out];rfl),(HF.out _ b2.out).2.2.2.1⟩
   |false=>
    clear H1 hb2
    obtain ⟨c0,c1,c2,c3,c4⟩:=HBX.out _ b2.out
    go_wp2_with (fail)
    refine (H2.out w2).mono ?_
    rintro r w3 ⟨rfl,hb3⟩
    have b3:Hid (Below (w.heap.size+1) W1 w3):=b2.out.trans (hb3.mono (HF.out _ b2.out).2.2.2.2)
    cases X2 with
    |false=>
     go_wp2
     go_ret
     exact ⟨ret_i (by rw [←HR2.out];rfl),(HF.out _ b3.out).2.2.2.1⟩
    |true=>
     clear H2 hb3 c0 c1 c2 c3 c4
     obtain ⟨c0,c1,c2,c3,c4⟩:=HBX.out _ b3.out
     go_wp2_with (fail)
     refine (H3.out w3 (HF.out _ b3.out).2.2.1).mono ?_
     rintro r w4 ⟨rfl,hb4⟩
     have b4:Hid (Below (w.heap.size+1) W1 w4):=b3.out.trans (hb4.mono (HF.out _ b3.out).2.2.2.2)
     cases X3 with
     |false=>
      go_wp2
      go_ret
      exact ⟨ret_i (by rw [←HR2.out];rfl),(HF.out _ b4.out).2.2.2.1⟩
     |true=>
      clear H3 hb4 c0 c1 c2 c3 c4
      obtain ⟨c0,c1,c2,c3,c4⟩:=HBX.out _ b4.out
      have HR3:Hid ((if k=22∧X4=false then 23 else if k=23∧X5=false then 24 else if k=24∧n≠2 then 27 else 0)=R):=HR2.out
      clear HR2
      by_cases k22:k=22
      ·subst k22
       go_wp2_with (fail)
       refine (H4.out w4 (HF.out _ b4.out).1 (HF.out _ b4.out).2.1).mono ?_
       rintro r w5 ⟨rfl,hb5⟩
       have b5:Hid (Below (w.heap.size+1) W1 w5):=b4.out.trans (hb5.mono (HF.out _ b4.out).2.2.2.2)
       clear c0 c1 c2 c3 c4
       obtain ⟨c0,c1,c2,c3,c4⟩:=HBX.out _ b5.out
       cases X4 with
       |false=>
        go_wp2
        go_ret
        exact ⟨ret_i (by rw [←HR3.out];rfl),(HF.out _ b5.out).2.2.2.1⟩
       |true=>
        go_wp2
        go_ret
        exact ⟨ret_i (by rw [←HR3.out];simp),(HF.out _ b5.out).2.2.2.1⟩
      ·by_cases k23:k=23
       ·subst k23
        go_wp2_with (fail)
        refine (H5.out w4 (HF.out _ b4.out).1 (HF.out _ b4.out).2.1).mono ?_
        rintro r w5 ⟨rfl,hb5⟩
        have b5:Hid (Below (w.heap.size+1) W1 w5):=b4.out.trans (hb5.mono (HF.out _ b4.out).2.2.2.2)
        clear c0 c1 c2 c3 c4
        obtain ⟨c0,c1,c2,c3,c4⟩:=HBX.out _ b5.out
        cases X5 with
        |false=>
         go_wp2
         go_ret
         exact ⟨ret_i (by rw [←HR3.out];rfl),(HF.out _ b5.out).2.2.2.1⟩
        |true=>
         go_wp2
         go_ret
         exact ⟨ret_i (by rw [←HR3.out];simp),(HF.out _ b5.out).2.2.2.1⟩
       ·have HR4:Hid ((if k=24∧n≠2 then 27 else 0)=R):=by
         have hh:=HR3.out
         rw [if_neg (fun h=>k22 h.1),if_neg (fun h=>k23 h.1)] at hh
         exact hh
        have h22:(k==22)=false:=by simpa using k22
        have h23:(k==23)=false:=by simpa using k23
        clear HR3 k22 k23
        by_cases k24:k=24
        ·subst k24
         by_cases n2:n=2
         ·subst n2
          go_wp2
          go_ret
          exact ⟨ret_i (by rw [←HR4.out];simp),(HF.out _ b4.out).2.2.2.1⟩
         ·have hnb:((n:Int)!=2)=true:=by simp;omega
          have HN:=Lib.hid n2
          clear n2
          go_wp2
          go_ret
          exact ⟨ret_i (by have hh:=HR4.out;simp only [true_and] at hh;rw [if_pos HN.out] at hh;exact hh),(HF.out _ b4.out).2.2.2.1⟩
        ·have h24:(k==24)=false:=by simpa using k24
         have HE:Hid (0=R):=by show 0=R;rw [←HR4.out,if_neg (fun h=>k24 h.1)]
         clear k24 HR4
         go_wp2
         go_ret
         exact ⟨ret_i HE.out,(HF.out _ b4.out).2.2.2.1⟩
theorem tabs_kc {w W:World} {br:Nat} (h:Tabs w) (hk:Kc br w W) (h1:2≠br) (h2:3≠br):Tabs W:=
 ⟨fun c hc=>hk.cell (h.1 c hc) h1,fun i hi=>⟨hk.cell (h.2 i hi).1 h2,hk.cell (h.2 i hi).2 h2⟩⟩
theorem tabs_lt {w:World} (h:Tabs w):2<w.heap.size∧3<w.heap.size:=by
 have k:∀ {p:Addr} {v:Value},w.cell? p=some v→p.block<w.heap.size:=fun {p v} h=>by
  obtain ⟨cs,T,fr,hh⟩:=Nu.cells_of_cell h
  exact (Array.getElem?_eq_some_iff.1 hh).1
 exact ⟨k (h.1 0 (by decide)),k (h.2 0 (by decide)).1⟩
theorem check_any {N:Nat} (t:VT) (lv:Value) (w:World) (hT:Tabs w) (hf:t.Fine) (hl:LAt w.heap.size w N lv t.list) (hn:nodes t≤900000000):
 Calls Tryd.prog 24 #[t.agg lv] w fun r w'=>r= .returned (.int .i64 (checkT t 1))∧Kc (w.heap.size+1) w w':=
 check_of (Tb:=Tabs) (fun N B t lv d W hf hl hB hT=>by
  have:=alone_raw (N:=N) (B:=B) t.kind t.num t.text lv t.elem t.list d W hl hB (by rw [VT.eta];exact hf) hT
  rw [VT.eta] at this
  exact this) t lv w (fun W hk=>tabs_kc hT hk (by have:=tabs_lt hT;omega) (by have:=tabs_lt hT;omega)) hf hl hn
end Go.Proofs.YtfoiaiblggapeaaDoor.Va
namespace Go.Proofs.YtfoiaiblggapeaaDoor.Va
open Go Go.RowKit Nu Uc Fd Go.Proofs.YtfoiaiblggapeaaDoor.Nm
def Env (w:World):Prop:=(∃ t,w.heap[0]? =some (.cells (Lib.asciiSpaceTab.map fun z=>Value.int .u8 z).toArray t (0,0)))∧Tabs w
theorem Env.below {w w':World} (h:Env w) (hb:Below w.heap.size w w'):Env w':=by
 obtain ⟨⟨t,h1⟩,h2⟩:=h
 exact ⟨⟨t,(hb.block _ (Array.getElem?_eq_some_iff.1 h1).1).trans h1⟩,h2.below hb⟩
theorem pbool {a b:Bool} (h:a=b):Ending.returned (.bool a)= .returned (.bool b):=by rw [h]
def wantC (f:FT) (o:Option Int):Bool:=match o with|some k=>f.kinds.contains k|none=>false
theorem wantedT_eq (f:FT) (t:VT):wantedT f t=if f.type=100 then true else if f.type=101 then decide (t.kind=23)&&decide (t.elem=20) else if f.type=102 then wantC f (kindOf t) else decide (t.kind=f.type):=rfl
abbrev fagg (f:FT) (kv:Value):Value:= .agg #[.string ⟨f.name.toArray⟩,.int .i64 f.type,kv,.bool f.must,.int .i64 f.dk,.int .u64 f.dn,.string ⟨f.dt.toArray⟩,.slice none 0 0,.int .i64 0]
theorem pload_field {w:World} {b o:Nat} {f:FT} {kv:Value} (h:Cells w b o (fcell f kv)):(Instr.loadAt 50 (.pointer (some ⟨b,o,none⟩))).run Tryd.prog w= .ok (fagg f kv) w:=
 Go.run_loadAt_mid w b o 50 (fcell f kv) _ h Tryd.underlying50 rfl (by kernel_rfl)
theorem pload_int {w:World} {a:Addr} {v:Value} (h:w.cell? a=some v):(Instr.loadAt 3 (.pointer (some a))).run Tryd.prog w= .ok v w:=by
 have:=Tryd.underlying3
 have:=Tryd.sizeOf3
 go_simp
theorem pload_bool {w:World} {a:Addr} {v:Value} (h:w.cell? a=some v):(Instr.loadAt 4 (.pointer (some a))).run Tryd.prog w= .ok v w:=by
 have:=Tryd.underlying4
 have:=Tryd.sizeOf4
 go_simp
theorem pload_ints {w:World} {a:Addr} {v:Value} (h:w.cell? a=some v):(Instr.loadAt 48 (.pointer (some a))).run Tryd.prog w= .ok v w:=by
 have:=Tryd.underlying48
 have:=Tryd.sizeOf48
 go_simp
theorem pindex_any {lo hi:Nat} {ks:List Int} {kv:Value} {w:World} (h:KsOwn lo hi w kv ks) (k:Int) (hl:ks.length≤1000):
 Calls Tryd.prog 73 #[kv,.int .i64 k] w fun r w'=>(∃ j:Int,r= .returned (.int .i64 j)∧decide (0≤j)=ks.contains k)∧w'=w:=by
 have H:=Lib.hid h
 obtain ⟨p,c,rfl,hu⟩:=h.view
 clear hu h
 obtain ⟨n,hn⟩:∃ n,ks.length=n:=⟨_,rfl⟩
 have Hn:=Lib.hid hn
 rw [hn] at H hl ⊢
 clear hn
 go_enter Tryd.func73,Tryd.ntmps73
 go_wp2
 go_loopw [8] (fun i wr=>∃ j:Nat,i= .int .i64 j∧j≤n∧Hid (∀ (i:Nat) (x:Int),i<j→ks[i]? =some x→x≠k)∧wr=w) (fun i _=>n-(intOf i).toNat)
 case atStart=>exact ⟨0,rfl,Nat.zero_le _,fun i x h=>by omega,rfl⟩
 case round=>
  obtain ⟨j,rfl,hj,HQ,rfl⟩:=hrel
  by_cases hlt:j<n
  ·obtain ⟨x,hx⟩:∃ x,ks[j]? =some x:=⟨_,List.getElem?_eq_getElem (by rw [Hn.out];exact hlt)⟩
   obtain ⟨q,d,e,hv⟩:=H.out.view
   obtain ⟨b,off,rfl,_,hc⟩:=hv j x hx
   simp only [Value.slice.injEq] at e
   obtain ⟨rfl,_,_⟩:=e
   have HX:=Lib.hid hx
   have hj0:(0:Int)≤(j:Int):=by omega
   have hj1:(j:Int)<(n:Int):=by omega
   clear hv hx
   by_cases he:k=x
   ·subst he
    have HE:Hid (decide (0≤(j:Int))=ks.contains k):=by
     show _=_
     have:k∈ks:=List.mem_of_getElem? HX.out
     simp [this]
    go_wp2
    go_ret
    exact ⟨⟨_,rfl,HE.out⟩,rfl⟩
   ·have hne:(k==x)=false:=by simp [he]
    have HN:Hid (∀ (i:Nat) (y:Int),i<j+1→ks[i]? =some y→y≠k):=fun i y hi hy=>by
     rcases Nat.lt_or_ge i j with h|h
     ·exact HQ.out i y h hy
     ·obtain rfl:i=j:=by omega
      rw [HX.out] at hy
      cases hy
      exact fun e=>he e.symm
    clear he
    go_wp2
    go_roundw
    case rel=>exact ⟨j+1,by go_num,by omega,HN.out,trivial⟩
    case measure=>simp [intOf];omega
  ·obtain rfl:j=n:=by omega
   have HE:Hid (decide (0≤(-1:Int))=ks.contains k):=by
    show _=_
    have:k∉ks:=fun h=>by
     obtain ⟨i,hi⟩:=List.getElem?_of_mem h
     exact HQ.out i k (by have:=(List.getElem?_eq_some_iff.1 hi).1;have:=Hn.out;omega) hi rfl
    simp [this]
   go_wp2
   go_ret
   exact ⟨⟨_,rfl,HE.out⟩,rfl⟩
theorem pcontains_any {lo hi:Nat} {ks:List Int} {kv:Value} {w:World} (h:KsOwn lo hi w kv ks) (k:Int) (hl:ks.length≤1000):
 Calls Tryd.prog 59 #[kv,.int .i64 k] w fun r w'=>r= .returned (.bool (ks.contains k))∧w'=w:=by
 have HC:=Lib.hid (pindex_any h k hl)
 clear h
 go_enter Tryd.func59,Tryd.ntmps59
 go_wp2_with (go_at_call 73;refine HC.out.mono ?_;rintro r w2 ⟨⟨j,rfl,hj⟩,rfl⟩;have HJ:=Lib.hid hj;clear hj)
 go_ret
 exact ⟨pbool HJ.out,rfl⟩
attribute [-go_sem] Go.Instr.loadAt Go.Instr.storeAt
theorem wanted_any {lo hi N B:Nat} (f:FT) (kv:Value) (t:VT) (lv:Value) (w:World) (hE:Env w) (hk:KsOwn lo hi w kv f.kinds) (hkl:f.kinds.length≤1000) (hf:t.Fine) (hl:LAt B w N lv t.list) (hB:B≤w.heap.size):
 Calls Tryd.prog 39 #[fagg f kv,t.agg lv] w fun r w'=>r= .returned (.bool (wantedT f t))∧Below w.heap.size w w':=by
 obtain ⟨p,c,rfl⟩:=hl.slice
 obtain ⟨W1,hW1⟩:∃ W1,(w.alloc (.cells #[.string ⟨f.name.toArray⟩,.int .i64 f.type,kv,.bool f.must,.int .i64 f.dk,.int .u64 f.dn,.string ⟨f.dt.toArray⟩,.slice none 0 0,.int .i64 0] 50)).alloc (.cells #[.int .i64 t.kind,.int .u64 t.num,.string t.text,.slice p t.list.length c,.int .i64 t.elem] 26)=W1:=⟨_,rfl⟩
 obtain ⟨x1,x2,hz1,hb1⟩:=two_boxes (cs:=fcell f kv) (ds:=t.cells (.slice p t.list.length c)) hW1
 obtain ⟨⟨ts,hsp⟩,_⟩:=hE.below hb1
 have l1:=pload_int (x1.cell (j:=1) rfl)
 have l2:=wload_value x2.1
 have l3:=pload_int (x2.cell (j:=0) rfl)
 have l4:=pload_int (x2.cell (j:=4) rfl)
 have HKC:=Lib.hid (kind_any (N:=N) (B:=B) (d:=t) (v:=t.agg (.slice p t.list.length c)) (w:=W1) ⟨hf,_,rfl,hl.below (hb1.mono hB)⟩ (by omega) hsp)
 have X1:=Lib.hid x1
 have HK1:=Lib.hid (hk.below hb1)
 have HB1:=Lib.hid hb1
 have HW:=Lib.hid (wantedT_eq f t)
 obtain ⟨R,hR⟩:∃ R,wantedT f t=R:=⟨_,rfl⟩
 rw [hR] at HW ⊢
 clear hR hl hk hE x1 x2 hb1 hsp hf
 show Calls Tryd.prog 39 #[.agg #[.string ⟨f.name.toArray⟩,.int .i64 f.type,kv,.bool f.must,.int .i64 f.dk,.int .u64 f.dn,.string ⟨f.dt.toArray⟩,.slice none 0 0,.int .i64 0],.agg #[.int .i64 t.kind,.int .u64 t.num,.string t.text,.slice p t.list.length c,.int .i64 t.elem]] w _
 by_cases h100:f.type=100
 ·have HE:Hid (R=true):=HW.out.trans (if_pos h100)
  rw [h100] at l1 hW1 ⊢
  go_enter Tryd.func39,Tryd.ntmps39
  go_wp2
  go_ret
  exact ⟨pbool HE.out.symm,HB1.out⟩
 by_cases h101:f.type=101
 ·have HE:Hid (R=(decide (t.kind=23)&&decide (t.elem=20))):=HW.out.trans (by rw [if_neg h100,if_pos h101])
  rw [h101] at l1 hW1 ⊢
  go_enter Tryd.func39,Tryd.ntmps39
  go_wp2
  all_goals
   go_ret
   exact ⟨pbool (by rw [HE.out];clear HE HW;first|(simp_all;done)|(by_cases h:t.elem=20<;>simp_all)),HB1.out⟩
 by_cases h102:f.type=102
 ·obtain ⟨o,ho⟩:∃ o,kindOf t=o:=⟨_,rfl⟩
  have HE:Hid (R=wantC f o):=HW.out.trans (by rw [if_neg h100,if_neg h101,if_pos h102,ho])
  rw [ho] at HKC
  rw [h102] at l1 hW1 ⊢
  clear ho
  go_enter Tryd.func39,Tryd.ntmps39
  go_wp2_with (fail)
  refine HKC.out.mono ?_
  rintro r w2 ⟨rfl,hb2⟩
  have HB2:=Lib.hid (HB1.out.trans (hb2.mono (by omega)))
  have HK2:=Lib.hid (HK1.out.below hb2)
  have l5:=pload_ints ((X1.out.below hb2 (by omega)).cell (j:=2) rfl)
  clear hb2 l1 l2 l3 l4
  cases o with
  |none=>
   unfold kindAns
   go_wp2
   go_ret
   exact ⟨pbool HE.out.symm,HB2.out⟩
  |some k=>
   have HCC:=Lib.hid (pcontains_any HK2.out k hkl)
   obtain ⟨X,hX⟩:∃ X,f.kinds.contains k=X:=⟨_,rfl⟩
   have HE2:Hid (R=X):=by rw [←hX];exact HE.out
   rw [hX] at HCC
   obtain ⟨kp,kc,rfl,hu⟩:=HK2.out.view
   clear hu hX
   unfold kindAns
   go_wp2_with (go_at_call 59;refine HCC.out.mono ?_;rintro r w3 ⟨rfl,rfl⟩)
   go_ret
   exact ⟨pbool HE2.out.symm,HB2.out⟩
 ·have HE:Hid (R=decide (t.kind=f.type)):=HW.out.trans (by rw [if_neg h100,if_neg h101,if_neg h102])
  have l6:=pload_int (X1.out.cell (j:=1) rfl)
  go_enter Tryd.func39,Tryd.ntmps39
  go_wp2
  go_ret
  exact ⟨pbool (by rw [HE.out];by_cases h:t.kind=f.type<;>simp [h]),HB1.out⟩
end Go.Proofs.YtfoiaiblggapeaaDoor.Va
namespace Go.Proofs.YtfoiaiblggapeaaDoor.Va
open Go Go.RowKit Nu Uc Fd Go.Proofs.YtfoiaiblggapeaaDoor.Nm
attribute [-go_sem] Go.Instr.loadAt Go.Instr.storeAt
def ReadAns (a:Except Int VT) (w:World) (r:Ending) (w':World):Prop:=
 Below w.heap.size w w'∧match a with
  | .ok y=>∃ lv us,r= .returned (.tuple #[y.agg lv,.int .i64 0])∧y.Fine∧OL w' LV lv y.list us∧Blk w.heap.size w'.heap.size us∧ApartV us
  | .error e=>r= .returned (.tuple #[zeroT.agg (.slice none 0 0),.int .i64 e])
def rdFn (f:FT):Value:=if f.type=102 then .func (.func 60) #[] #[] else .func (.func 61) #[] #[]
theorem readerOf_any (f:FT) (kv:Value) (w:World):Calls Tryd.prog 40 #[.agg #[.string ⟨f.name.toArray⟩,.int .i64 f.type,kv,.bool f.must,.int .i64 f.dk,.int .u64 f.dn,.string ⟨f.dt.toArray⟩,.slice none 0 0,.int .i64 0]] w fun r w'=>r= .returned (rdFn f)∧Below w.heap.size w w':=by
 obtain ⟨W1,hW1⟩:∃ W1,w.alloc (.cells #[.string ⟨f.name.toArray⟩,.int .i64 f.type,kv,.bool f.must,.int .i64 f.dk,.int .u64 f.dn,.string ⟨f.dt.toArray⟩,.slice none 0 0,.int .i64 0] 50)=W1:=⟨_,rfl⟩
 obtain ⟨x1,hz1,hb1⟩:=one_box (cs:=fcell f kv) hW1
 have l1:=pload_int (x1.cell (j:=1) rfl)
 have HB1:=Lib.hid hb1
 clear x1 hb1
 by_cases h:f.type=102
 ·have HR:Hid (rdFn f= .func (.func 60) #[] #[]):=if_pos h
  have heq:(f.type==102)=true:=by simp [h]
  clear h
  go_enter Tryd.func40,Tryd.ntmps40
  go_wp2
  go_ret
  exact ⟨by rw [HR.out];rfl,HB1.out⟩
 ·have HR:Hid (rdFn f= .func (.func 61) #[] #[]):=if_neg h
  have hne:(f.type==102)=false:=by simp [h]
  clear h
  go_enter Tryd.func40,Tryd.ntmps40
  go_wp2
  go_ret
  exact ⟨by rw [HR.out];rfl,HB1.out⟩
theorem results_cell_tmp2 {P:Program} {fn:Func} {p q:Tmp} {ty:TypeId} {tmps:Array Value} {w:World} {g:Nat} {v u:Value} (h:fn.results= #[.cell p ty,.tmp q]) (hp:tmps.getD p undef= .pointer (some ⟨g,0,none⟩)) (hld:(loadVar ty ⟨g,0,none⟩).run P w= .ok v w) (hq:tmps.getD q undef=u):
 (results fn tmps).run P w= .ok (.tuple #[v,u]) w:=by
 have hp':tmps[p]?.getD undef= .pointer (some ⟨g,0,none⟩):=by simpa using hp
 have hq':tmps[q]?.getD undef=u:=by simpa using hq
 simp [results,h,hp',asAddr,hld,hq']
theorem reader2_any {N B:Nat} (t:VT) (lv:Value) (w:World) (hf:t.Fine) (hl:LAt B w N lv t.list) (hB:B≤w.heap.size) (hn:nodes t≤900000000):
 Calls Tryd.prog 61 #[t.agg lv] w fun r w'=>ReadAns (.ok t) w r w':=by
 obtain ⟨p,c,rfl⟩:=hl.slice
 obtain ⟨W1,hW1⟩:∃ W1,(w.alloc (.cells #[.int .i64 t.kind,.int .u64 t.num,.string t.text,.slice p t.list.length c,.int .i64 t.elem] 26)).alloc (.cells #[.int .i64 0,.int .u64 0,.string ⟨#[]⟩,.slice none 0 0,.int .i64 0] 26)=W1:=⟨_,rfl⟩
 obtain ⟨x1,x2,hz1,hb1⟩:=two_boxes (cs:=t.cells (.slice p t.list.length c)) (ds:=zeroT.cells (.slice none 0 0)) hW1
 have l0:=wload_value x1.1
 have HC:=Lib.hid (copies N B t (.slice p t.list.length c) W1 hf (hl.below (hb1.mono hB)) (by omega) hn)
 have X2:=Lib.hid x2
 have HB1:=Lib.hid hb1
 have HF:=Lib.hid hf
 clear hl x1 x2 hb1 hf
 go_enter Tryd.func61,Tryd.ntmps61
 go_wp2_with (fail)
 clear hW1 l0
 refine HC.out.mono ?_
 rintro r w2 ⟨lv2,us,rfl,ho,hbk,hap,hb2⟩
 obtain ⟨q5,c5,rfl⟩:=ho.slice
 have x2:=X2.out.below hb2 (by omega)
 have hst:=wstore_value (t:=t) (a:=q5) (n:=t.list.length) (c:=c5) (x2.part (o:=0) (n:=5) (Nat.le_refl _))
 have y2:=x2.all (vs:=t.cells (.slice q5 t.list.length c5)) rfl
 have yb:Below w.heap.size w (w2.setCells (w.heap.size+1) 0 (t.cells (.slice q5 t.list.length c5))):=(HB1.out.trans (hb2.mono (by omega))).trans (setCells_below' (by omega) _ _)
 have yo:OL (w2.setCells (w.heap.size+1) 0 (t.cells (.slice q5 t.list.length c5))) N (.slice q5 t.list.length c5) t.list us:=ho.heap (by rw [setCells_sz];exact Nat.le_refl _) fun u hu b hb=>setCells_other (by have:=hbk u hu b hb;omega) _ _
 have yk:Blk w.heap.size (w2.setCells (w.heap.size+1) 0 (t.cells (.slice q5 t.list.length c5))).heap.size us:=by rw [setCells_sz];exact hbk.mono (by omega) (Nat.le_refl _)
 obtain ⟨X,hX⟩:∃ X,w2.setCells (w.heap.size+1) 0 (t.cells (.slice q5 t.list.length c5))=X:=⟨_,rfl⟩
 rw [hX] at hst y2 yb yo yk
 have HLV:=Lib.hid (ploadVar_value y2.1)
 have HQ:Hid (Below w.heap.size w X∧t.Fine∧OL X LV (.slice q5 t.list.length c5) t.list us∧Blk w.heap.size X.heap.size us∧ApartV us):=⟨yb,HF.out,yo.lvN (by have:=nodes_eq t;unfold LV;omega),yk,hap⟩
 clear ho hbk hap hb2 x2 y2 yb yo yk hX
 go_wp2
 exact bodyPost_ret_by (results_cell_tmp2 rfl rfl HLV.out rfl) rfl ⟨HQ.out.1,_,us,rfl,HQ.out.2⟩
end Go.Proofs.YtfoiaiblggapeaaDoor.Va
