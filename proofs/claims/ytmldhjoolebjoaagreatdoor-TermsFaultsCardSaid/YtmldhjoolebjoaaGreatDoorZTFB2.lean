/-
  The texts U1 C1 O1 O2 O3 A1 M1 of this claim, one behind the other.
-/
import Derived.Test.YtmldhjoolebjoaaGreatDoorZTFB0
import Derived.Test.YtmldhjoolebjoaaGreatDoorZTFA0
import Derived.WalkKit
import Derived.WalkSpells
import Derived.WalkLawsBesides
import Derived.Lib.Hide
import Derived.Deep.Light
import Derived.Laws.Shifts
import Derived.Laws.ShiftsVar
import Derived.IntWalk
import Derived.Test.YtmldhjoolebjoaaGreatDoorZTFB1
set_option maxHeartbeats 40000000
set_option maxRecDepth 100000
namespace Go.Proofs.YtmldhjoolebjoaaGreatDoor.Uc
open Go Go.RowKit Nu
def qL (w:World):Prop:=Lib.Utf8Tabs 0 1 w
theorem lt_of_cell {w:World} {b o:Nat} {v:Value} (h:w.cell? ⟨b,o,none⟩=some v):b<w.heap.size:=by
 rcases Nat.lt_or_ge b w.heap.size with h'|h'
 ·exact h'
 ·exfalso
  unfold World.cell? at h
  rw [show w.heap[b]? =none from Array.getElem?_eq_none h'] at h
  cases h
theorem qL.below {w w':World} (h:qL w) (hb:Below w.heap.size w w'):qL w':=
 ⟨fun c hc=>(hb.cell (p:=⟨_,c,none⟩) (lt_of_cell (h.1 c hc))).trans (h.1 c hc),
  fun i hi=>⟨(hb.cell (p:=⟨_,2*i,none⟩) (lt_of_cell (h.2 i hi).1)).trans (h.2 i hi).1,(hb.cell (p:=⟨_,2*i+1,none⟩) (lt_of_cell (h.2 i hi).2)).trans (h.2 i hi).2⟩⟩
theorem Qg (s:ByteArray) (k:Nat) (w:World) (hT:qL w) (hk:k<s.size):
 Calls Tryz.prog 90 #[.string (s.extract k s.size)] w fun e w'=>e= .returned (.tuple #[.int .i32 (Utf8.decode s k).1,.int .i64 (Utf8.decode s k).2])∧Below w.heap.size w w':=by
 have h:=Any.utf8_DecodeRuneInString Tryz.VV (s.extract k s.size) w hT
 have e:Lib.decodeGo (s.extract k s.size)=Utf8.decode s k:=by
  unfold Lib.decodeGo
  have hz:(s.extract k s.size).size≠0:=by simp;omega
  rw [if_neg hz,decode_extract s k (by omega)]
 rw [e] at h
 exact h
theorem dA {k:IntKind} {a b:Int} (h:a=b):Ending.returned (.int k a)= .returned (.int k b):=by rw [h]
theorem M3 (s:ByteArray) (w:World) (hT:qL w) (hs:s.size≤9223372036854775807):
 Calls Tryz.prog 74 #[.string s] w fun e w'=>e= .returned (.int .i64 (SH s))∧Below w.heap.size w w':=by
 have HT:=ajd hT;clear hT
 go_enter Tryz.func74,Tryz.ntmps74
 go_wp2
 go_loopw [3] (fun i wr=>∃ (k:Nat),i= .int .i64 k∧k≤s.size∧Hid (kC s k=SH s)∧Below w.heap.size w wr) (fun i _=>s.size-(intOf i).toNat)
 case atStart=>exact ⟨0,rfl,Nat.zero_le _,rfl,Below.refl _ _⟩
 case round=>
  obtain ⟨k,rfl,hk,HQ,hb⟩:=hrel
  have HB:=ajd hb
  by_cases hlt:k<s.size
  ·obtain ⟨hd1,hd2⟩:=SG s k hlt
   have hD:=Qg s k wr (HT.out.below hb) hlt
   have hfit:=Wj (s:=s) (k:=k)
   obtain ⟨c,hc⟩:∃ c,ch s k=c:=⟨_,rfl⟩
   rw [hc] at hd1 hd2 hfit
   obtain ⟨r,n,hrn⟩:∃ r n,Utf8.decode s k=(r,n):=⟨_,_,rfl⟩
   rw [hrn] at hd1 hd2 hD
   simp only at hd2 hD
   by_cases hz:c=0
   ·have e:=hd1 hz
    simp only [Prod.mk.injEq] at e
    obtain ⟨rfl,rfl⟩:=e
    have HE:Hid (SH s=k):=HQ.out.symm.trans (Q5 hlt (by omega))
    clear hd1 hd2 hfit hc hrn hb
    go_wp2_with (go_at_call 90;refine hD.mono ?_;clear hD;rintro e w2 ⟨rfl,hb2⟩)
    go_ret
    exact ⟨dA HE.out.symm,HB.out.trans (hb2.mono HB.out.size)⟩
   ·obtain ⟨e,hne⟩:=hd2 hz
    subst e
    have hn1:1≤n:=by omega
    have hfit:=hfit hz
    have HN:=ajd hne
    have HE:Hid (kC s (k+n)=SH s):=by
     have:=Kr hlt (by rw [hc];exact hz)
     rw [hc] at this
     exact this.symm.trans HQ.out
    clear hd1 hd2 hc hrn hb hne hz
    go_wp2_with (go_at_call 90;refine hD.mono ?_;clear hD;rintro e w2 ⟨rfl,hb2⟩)
    ·exfalso
     rename_i h1 h2
     exact HN.out ⟨by omega,by simp at h2;omega⟩
    all_goals
     go_roundw
     case rel=>exact ⟨k+n,by go_num,by omega,HE.out,HB.out.trans (hb2.mono HB.out.size)⟩
     case measure=>simp [intOf];omega
  ·obtain rfl:k=s.size:=by omega
   go_wp2
   go_ret
   exact ⟨dA (by rw [←HQ.out,Q4 hlt]),hb⟩
theorem ay {a b:Bool} (h:a=b):Ending.returned (.bool a)= .returned (.bool b):=by rw [h]
theorem UQ {a b c a' b' c':Bool} (h:a=a') (k:b=b') (l:c=c'):Ending.returned (.tuple #[.bool a,.bool b,.bool c])= .returned (.tuple #[.bool a',.bool b',.bool c']):=by rw [h,k,l]
theorem aaH (k:Int) (w:World):Calls Tryz.prog 156 #[.int .i64 k] w fun e w'=>e= .returned (.tuple #[.bool (wR k),.bool (sI k),.bool (sJ k)])∧w'=w:=by
 go_enter Tryz.func156,Tryz.ntmps156
 go_wp2
 all_goals
  go_ret3
  exact ⟨UQ (by simp_all [wR,sI,sJ]) (by simp_all [sI]) (by simp_all [sJ]),rfl⟩
theorem toList_nil {s:ByteArray}:s.toList=[]↔s=ByteArray.empty:=by
 rw [Lib.toList_data]
 constructor
 ·intro h
  have:s.size=0:=by rw [Lib.size_eq,h];rfl
  simpa using this
 ·intro h;rw [h];rfl
theorem UR (k m:Int) (s:ByteArray) (p:Option Addr) (n c:Nat) (e:Int) (w:World) (hn:n≤9223372036854775807):
 Calls Tryz.prog 114 #[.agg #[.int .i64 k,.int .u64 m,.string s,.slice p n c,.int .i64 e]] w fun r w'=>r= .returned (.bool (gU k m s e n))∧Below w.heap.size w w':=by
 obtain ⟨a,ha⟩:∃ a,wR k=a:=⟨_,rfl⟩
 obtain ⟨b,hb⟩:∃ b,sI k=b:=⟨_,rfl⟩
 obtain ⟨d,hd⟩:∃ d,sJ k=d:=⟨_,rfl⟩
 obtain ⟨R,hR⟩:∃ R,gU k m s e n=R:=⟨_,rfl⟩
 rw [hR]
 have HR:Hid (R=((!a&&decide (m≠0))||((!b&&decide (s.size≠0))||((!d&&decide (0<n))||(decide (k≠23)&&decide (e≠0)))))):=by rw [←hR];unfold gU;rw [ha,hb,hd];exact rfl
 have hh:=aaH k
 rw [ha,hb,hd] at hh
 have HH:=ajd hh
 clear ha hb hd hR hh
 cases a<;>cases b<;>cases d
 all_goals
  go_enter Tryz.func114,Tryz.ntmps114
  go_wp2_with (go_at_call 156;refine (HH.out _).mono ?_;rintro r w2 ⟨rfl,rfl⟩)
  all_goals
   go_ret
   refine ⟨ay ?_,(Below.refl _ _).alloc (Nat.le_refl _) _⟩
   rw [HR.out]
   clear HR HH
   go_light
   first
    |(simp_all;done)
    |(simp_all [toList_nil];done)
    |(by_cases hk:k=23<;>by_cases he:e=0<;>by_cases hz:n=0<;>simp_all [toList_nil]<;>omega)
theorem ahS (m:Int) (h0:0≤m) (h1:m≤18446744073709551615):(wrap64 m/128=0∨wrap64 m/128= -1)↔signed m 128=true:=by
 unfold signed wrap64
 simp only [Bool.or_eq_true,decide_eq_true_eq]
 omega
theorem aaI (m:Int) (w:World) (h0:0≤m) (h1:m≤18446744073709551615):Calls Tryz.prog 157 #[.int .u64 m,.int .i64 8] w fun r w'=>r= .returned (.bool (signed m 128))∧w'=w:=by
 have HS:=ajd (ahS m h0 h1)
 go_enter Tryz.func157,Tryz.ntmps157
 go_wp2
 all_goals
  rename_i h
  go_ret
  refine ⟨ay ?_,rfl⟩
  rw [Bool.eq_iff_iff,←HS.out]
  simp [h]
theorem ae4 (m:Int) (h0:0≤m) (h1:m≤18446744073709551615):(wrap64 m/32768=0∨wrap64 m/32768= -1)↔signed m 32768=true:=by
 unfold signed wrap64
 simp only [Bool.or_eq_true,decide_eq_true_eq]
 omega
theorem Yo (m:Int) (w:World) (h0:0≤m) (h1:m≤18446744073709551615):Calls Tryz.prog 157 #[.int .u64 m,.int .i64 16] w fun r w'=>r= .returned (.bool (signed m 32768))∧w'=w:=by
 have HS:=ajd (ae4 m h0 h1)
 go_enter Tryz.func157,Tryz.ntmps157
 go_wp2
 all_goals
  rename_i h
  go_ret
  refine ⟨ay ?_,rfl⟩
  rw [Bool.eq_iff_iff,←HS.out]
  simp [h]
theorem ae5 (m:Int) (h0:0≤m) (h1:m≤18446744073709551615):(wrap64 m/2147483648=0∨wrap64 m/2147483648= -1)↔signed m 2147483648=true:=by
 unfold signed wrap64
 simp only [Bool.or_eq_true,decide_eq_true_eq]
 omega
theorem Yp (m:Int) (w:World) (h0:0≤m) (h1:m≤18446744073709551615):Calls Tryz.prog 157 #[.int .u64 m,.int .i64 32] w fun r w'=>r= .returned (.bool (signed m 2147483648))∧w'=w:=by
 have HS:=ajd (ae5 m h0 h1)
 go_enter Tryz.func157,Tryz.ntmps157
 go_wp2
 all_goals
  rename_i h
  go_ret
  refine ⟨ay ?_,rfl⟩
  rw [Bool.eq_iff_iff,←HS.out]
  simp [h]
theorem aaJ (k m:Int) (s:ByteArray) (lv:Value) (e:Int) (w:World) (h0:0≤m) (h1:m≤18446744073709551615):
 Calls Tryz.prog 115 #[.agg #[.int .i64 k,.int .u64 m,.string s,lv,.int .i64 e]] w fun r w'=>r= .returned (.bool (iB k m))∧Below w.heap.size w w':=by
 have H8:=ajd (fun w=>aaI m w h0 h1)
 have H16:=ajd (fun w=>Yo m w h0 h1)
 have H32:=ajd (fun w=>Yp m w h0 h1)
 go_enter Tryz.func115,Tryz.ntmps115
 go_wp2_with (first
  |(go_at_call 157;with_reducible refine (H8.out _).mono ?_;rintro r w2 ⟨rfl,rfl⟩)
  |(go_at_call 157;with_reducible refine (H16.out _).mono ?_;rintro r w2 ⟨rfl,rfl⟩)
  |(go_at_call 157;with_reducible refine (H32.out _).mono ?_;rintro r w2 ⟨rfl,rfl⟩))
 all_goals
  go_ret
  refine ⟨ay ?_,(Below.refl _ _).alloc (Nat.le_refl _) _⟩
  clear H8 H16 H32
  go_light
  simp_all [iB]<;>omega
theorem UT (s:ByteArray) (w:World) (hs:s.size≤9223372036854775807):
 Calls Tryz.prog 89 #[.string s] w fun e w'=>e= .returned (.int .i64 (VG s))∧w'=w:=by
 go_enter Tryz.func89,Tryz.ntmps89
 go_wp2
 go_loop [6] (fun i=>∃ (k:Nat),i= .int .i64 k∧k≤s.size∧Hid (jP s k=VG s)) (fun i=>s.size-(intOf i).toNat)
 case atStart=>exact ⟨0,rfl,Nat.zero_le _,rfl⟩
 case round=>
  obtain ⟨k,rfl,hk,HQ⟩:=hrel
  by_cases hlt:k<s.size
  ·by_cases hc:128≤s[k].toNat
   ·have HE:Hid (VG s=k):=HQ.out.symm.trans (Q7 hlt hc)
    have hci:(128:Int)≤(s[k].toNat:Int):=by omega
    clear hc
    go_wp2
    go_ret
    exact ⟨dA HE.out.symm,rfl⟩
   ·have HE:Hid (jP s (k+1)=VG s):=(Kt hlt hc).symm.trans HQ.out
    have hci:(s[k].toNat:Int)<128:=by omega
    clear hc
    go_wp2
    go_round
    case rel=>exact ⟨k+1,by go_num,by omega,HE.out⟩
    case measure=>simp [intOf];omega
  ·obtain rfl:k=s.size:=by omega
   go_wp2
   go_ret
   exact ⟨dA (by rw [←HQ.out,Q6 (Nat.le_refl _)]),rfl⟩
theorem Yq (k m:Int) (s:ByteArray) (lv:Value) (e:Int) (w:World) (hT:qL w) (hs:s.size≤9223372036854775807):
 Calls Tryz.prog 116 #[.agg #[.int .i64 k,.int .u64 m,.string s,lv,.int .i64 e]] w fun r w'=>r= .returned (.bool (rH k s))∧Below w.heap.size w w':=by
 have HT:=ajd hT;clear hT
 obtain ⟨W1,hW1⟩:∃ W1,w.alloc (.cells #[.int .i64 k,.int .u64 m,.string s,lv,.int .i64 e] 25)=W1:=⟨_,rfl⟩
 have HB:Hid (Below w.heap.size w W1):=by rw [←hW1];exact (Below.refl _ _).alloc (Nat.le_refl _) _
 have HU:=ajd (M3 s W1 (HT.out.below HB.out) hs)
 have HA:=ajd (UT s W1 hs)
 rw [←hW1] at HU HA HB
 clear hW1
 go_enter Tryz.func116,Tryz.ntmps116
 go_wp2_with (first
  |(go_at_call 74;refine HU.out.mono ?_;rintro r w2 ⟨rfl,hb2⟩)
  |(go_at_call 89;refine HA.out.mono ?_;rintro r w2 ⟨rfl,rfl⟩))
 all_goals
  go_ret
  refine ⟨ay ?_,by first|exact HB.out.trans (hb2.mono HB.out.size)|exact HB.out⟩
  clear HU HA HB HT
  go_light
  simp_all [rH]
 all_goals first
  |omega
  |(rw [Bool.eq_iff_iff];simp;omega)
end Go.Proofs.YtmldhjoolebjoaaGreatDoor.Uc
namespace Go.Proofs.YtmldhjoolebjoaaGreatDoor.Va
open Go Go.RowKit Nu
attribute [local go_sem ↓] Go.wp_at_zero Go.wp_at_succ
theorem aaK (a:Int) (w:World):Calls Tryz.prog 205 #[.int .i64 a] w fun e w'=>e= .returned (.bool false)∧w'=w:=by
 go_enter Tryz.func205,Tryz.ntmps205
 go_wp2
 all_goals (go_ret;exact ⟨ay (by simp),rfl⟩)
theorem aaL (a:Int) (w:World):Calls Tryz.prog 206 #[.int .u64 a] w fun e w'=>e= .returned (.bool false)∧w'=w:=by
 go_enter Tryz.func206,Tryz.ntmps206
 go_wp2
 all_goals (go_ret;exact ⟨ay (by simp),rfl⟩)
theorem R3 (a b:Int) (w:World):Calls Tryz.prog 185 #[.int .i64 a,.int .i64 b] w fun e w'=>e= .returned (.int .i64 (Lib.compareInt a b))∧w'=w:=by
 have hc:(a<b∧Lib.compareInt a b= -1)∨(¬a<b∧b<a∧Lib.compareInt a b=1)∨(¬a<b∧¬b<a∧Lib.compareInt a b=0):=by
  unfold Lib.compareInt;(repeat' split)<;>omega
 obtain ⟨R,hR⟩:∃ R,Lib.compareInt a b=R:=⟨_,rfl⟩
 rw [hR] at hc ⊢
 rcases hc with ⟨h1,rfl⟩|⟨h1,h2,rfl⟩|⟨h1,h2,rfl⟩
 all_goals
  clear hR
  go_enter Tryz.func185,Tryz.ntmps185
  go_wp2_with (go_at_call 205;refine (aaK _ _).mono ?_;rintro e w' ⟨rfl,rfl⟩)
  go_ret
  exact ⟨rfl,rfl⟩
theorem aaM (a b:Int) (w:World):Calls Tryz.prog 186 #[.int .u64 a,.int .u64 b] w fun e w'=>e= .returned (.int .i64 (Lib.compareInt a b))∧w'=w:=by
 have hc:(a<b∧Lib.compareInt a b= -1)∨(¬a<b∧b<a∧Lib.compareInt a b=1)∨(¬a<b∧¬b<a∧Lib.compareInt a b=0):=by
  unfold Lib.compareInt;(repeat' split)<;>omega
 obtain ⟨R,hR⟩:∃ R,Lib.compareInt a b=R:=⟨_,rfl⟩
 rw [hR] at hc ⊢
 rcases hc with ⟨h1,rfl⟩|⟨h1,h2,rfl⟩|⟨h1,h2,rfl⟩
 all_goals
  clear hR
  go_enter Tryz.func186,Tryz.ntmps186
  go_wp2_with (go_at_call 206;refine (aaL _ _).mono ?_;rintro e w' ⟨rfl,rfl⟩)
  go_ret
  exact ⟨rfl,rfl⟩
theorem aaN (a b:ByteArray) (w:World):Calls Tryz.prog 187 #[.string a,.string b] w fun e w'=>e= .returned (.int .i64 (Lib.compareBytes a.data.toList b.data.toList))∧w'=w:=
 Any.strings_Compare Tryz.acW a b w
theorem ko {a b:Int} (h:a=b):Ending.returned (.int .i64 a)= .returned (.int .i64 b):=by rw [h]
theorem or3 (b:Nat) (a0 a1 a2:Int) (c:Nat) (w:World) (h0:w.cell? ⟨b,0,none⟩=some (.int .i64 a0)) (h1:w.cell? ⟨b,1,none⟩=some (.int .i64 a1)) (h2:w.cell? ⟨b,2,none⟩=some (.int .i64 a2)):
 Calls Tryz.prog 184 #[.slice (some ⟨b,0,none⟩) 3 c] w fun e w'=>e= .returned (.int .i64 (seq a0 (seq a1 a2)))∧w'=w:=by
 by_cases n0:a0=0
 ·by_cases n1:a1=0
  ·subst n0 n1
   by_cases n2:a2=0
   ·subst n2
    go_enter Tryz.func184,Tryz.ntmps184
    go_wp2
    refine wp_loop_rounds 4 ?_
    repeat (rw [rounds_succ];go_wp2)
    go_ret
    exact ⟨rfl,rfl⟩
   ·have H:=ajd n2
    have hb:(a2 !=0)=true:=by simpa using n2
    clear n2
    go_enter Tryz.func184,Tryz.ntmps184
    go_wp2
    refine wp_loop_rounds 4 ?_
    repeat (rw [rounds_succ];go_wp2)
    go_ret
    exact ⟨rfl,rfl⟩
  ·subst n0
   have H:=ajd n1
   have hb:(a1 !=0)=true:=by simpa using n1
   have hs:seq 0 (seq a1 a2)=a1:=by unfold seq;simp [n1]
   rw [hs]
   clear n1 hs
   go_enter Tryz.func184,Tryz.ntmps184
   go_wp2
   refine wp_loop_rounds 4 ?_
   repeat (rw [rounds_succ];go_wp2)
   go_ret
   exact ⟨rfl,rfl⟩
 ·have hb:(a0 !=0)=true:=by simpa using n0
  have hs:seq a0 (seq a1 a2)=a0:=by unfold seq;simp [n0]
  rw [hs]
  clear n0 hs
  go_enter Tryz.func184,Tryz.ntmps184
  go_wp2
  refine wp_loop_rounds 4 ?_
  repeat (rw [rounds_succ];go_wp2)
  go_ret
  exact ⟨rfl,rfl⟩
theorem or2 (b:Nat) (a0 a1:Int) (c:Nat) (w:World) (h0:w.cell? ⟨b,0,none⟩=some (.int .i64 a0)) (h1:w.cell? ⟨b,1,none⟩=some (.int .i64 a1)):
 Calls Tryz.prog 184 #[.slice (some ⟨b,0,none⟩) 2 c] w fun e w'=>e= .returned (.int .i64 (seq a0 a1))∧w'=w:=by
 by_cases n0:a0=0
 ·subst n0
  by_cases n2:a1=0
  ·subst n2
   go_enter Tryz.func184,Tryz.ntmps184
   go_wp2
   refine wp_loop_rounds 3 ?_
   repeat (rw [rounds_succ];go_wp2)
   go_ret
   exact ⟨rfl,rfl⟩
  ·have H:=ajd n2
   have hb:(a1 !=0)=true:=by simpa using n2
   clear n2
   go_enter Tryz.func184,Tryz.ntmps184
   go_wp2
   refine wp_loop_rounds 3 ?_
   repeat (rw [rounds_succ];go_wp2)
   go_ret
   exact ⟨rfl,rfl⟩
 ·have hb:(a0 !=0)=true:=by simpa using n0
  have hs:seq a0 a1=a0:=by unfold seq;simp [n0]
  rw [hs]
  clear n0 hs
  go_enter Tryz.func184,Tryz.ntmps184
  go_wp2
  refine wp_loop_rounds 3 ?_
  repeat (rw [rounds_succ];go_wp2)
  go_ret
  exact ⟨rfl,rfl⟩
theorem JA {W:World} {B:Nat} (h:W.heap.size=B) {cs:Array Value} {T:TypeId} (j:Nat) (u:Value) (hu:cs[j]? =some u):((W.alloc (.cells cs T)).drew).cell? ⟨B,j,none⟩=some u:=by
 have h1:(W.alloc (.cells cs T)).cell? ⟨W.heap.size,j,none⟩=some u:=by rw [World.cell?_alloc_new];exact hu
 rw [h] at h1
 exact ((Below.refl (B+1) (W.alloc (.cells cs T))).drew.cell (p:=⟨B,j,none⟩) (by simp)).trans h1
theorem M8 (W:World) (cs:Array Value) (T:TypeId) (j:Nat) (u:Value) (hu:cs[j]? =some u):(W.alloc (.cells cs T)).cell? ⟨W.heap.size,j,none⟩=some u:=by
 rw [World.cell?_alloc_new];exact hu
abbrev M9:Value:= .func (.func 159) #[] #[]
def ae6 (N:Nat):Prop:=∀ (B:Nat) (lv gM:Value) (l l':List VT) (w:World),bR B w N lv l→bR B w N gM l'→B≤w.heap.size→
    Calls Tryz.prog 188 #[lv,gM,M9] w fun e w'=>e= .returned (.int .i64 (cO l l'))∧bz w w'
theorem EI {N:Nat} (hS:ae6 N) (B:Nat) (k m:Int) (s:ByteArray) (e:Int) (l:List VT) (lv:Value) (k' m':Int) (s':ByteArray) (e':Int) (l':List VT) (gM:Value) (w:World) (hl:bR B w N lv l) (hl':bR B w N gM l') (hB:B≤w.heap.size):
 Calls Tryz.prog 159 #[.agg #[.int .i64 k,.int .u64 m,.string s,lv,.int .i64 e],.agg #[.int .i64 k',.int .u64 m',.string s',gM,.int .i64 e']] w fun r w'=>r= .returned (.int .i64 (jr (.mk k m s e l) (.mk k' m' s' e' l')))∧bz w w':=by
 have HS:=ajd hS
 have HL:=ajd hl
 have Yh:=ajd hl'
 clear hS hl hl'
 obtain ⟨X0,hX0⟩:∃ X,Lib.compareInt k k'=X:=⟨_,rfl⟩
 obtain ⟨X1,hX1⟩:∃ X,Lib.compareInt m m'=X:=⟨_,rfl⟩
 obtain ⟨X2,hX2⟩:∃ X,Lib.compareBytes s.data.toList s'.data.toList=X:=⟨_,rfl⟩
 obtain ⟨X3,hX3⟩:∃ X,cO l l'=X:=⟨_,rfl⟩
 obtain ⟨X4,hX4⟩:∃ X,Lib.compareInt e e'=X:=⟨_,rfl⟩
 have hR:jr (.mk k m s e l) (.mk k' m' s' e' l')=seq (seq X0 (seq X1 X2)) (seq X3 X4):=by
  rw [jr,hX0,hX1,hX2,hX3,hX4]
 rw [hR]
 obtain ⟨R,hRR⟩:∃ R,seq (seq X0 (seq X1 X2)) (seq X3 X4)=R:=⟨_,rfl⟩
 rw [hRR]
 have HR:=ajd hRR
 clear hRR
 have c0:=fun w=>R3 k k' w
 have c1:=fun w=>aaM m m' w
 have c2:=fun w=>aaN s s' w
 have c4:=fun w=>R3 e e' w
 rw [hX0] at c0
 rw [hX1] at c1
 rw [hX2] at c2
 rw [hX4] at c4
 have C0:=ajd c0
 have C1:=ajd c1
 have C2:=ajd c2
 have C4:=ajd c4
 have H3:=ajd hX3
 clear c0 c1 c2 c4 hX0 hX1 hX2 hX3 hX4 hR
 go_enter Tryz.func159,Tryz.ntmps159
 go_wp2
 obtain ⟨W1,hW1⟩:∃ W1,(w.alloc (.cells #[.int .i64 k,.int .u64 m,.string s,lv,.int .i64 e] 25)).alloc (.cells #[.int .i64 k',.int .u64 m',.string s',gM,.int .i64 e'] 25)=W1:=⟨_,rfl⟩
 have hz1:W1.heap.size=w.heap.size+2:=by rw [←hW1];simp
 have hg1:bz w W1:=by rw [←hW1];exact ((bz.refl _).alloc _).alloc _
 have hc:∀ j u,([.int .i64 k,.int .u64 m,.string s,lv,.int .i64 e]:List Value)[j]? =some u→W1.cell? ⟨w.heap.size,j,none⟩=some u:=by
  intro j u hu
  have h1:((w.alloc (.cells #[.int .i64 k,.int .u64 m,.string s,lv,.int .i64 e] 25))).cell? ⟨w.heap.size,j,none⟩=some u:=by
   rw [World.cell?_alloc_new];simpa using hu
  rw [←hW1]
  exact (((Below.refl _ _).alloc (Nat.le_refl _) _).cell (p:=⟨w.heap.size,j,none⟩) (by simp)).trans h1
 have hc':∀ j u,([.int .i64 k',.int .u64 m',.string s',gM,.int .i64 e']:List Value)[j]? =some u→W1.cell? ⟨w.heap.size+1,j,none⟩=some u:=by
  intro j u hu
  have h1:=World.cell?_alloc_new (w.alloc (.cells #[.int .i64 k,.int .u64 m,.string s,lv,.int .i64 e] 25)) #[.int .i64 k',.int .u64 m',.string s',gM,.int .i64 e'] 25 j
  rw [show (w.alloc (.cells #[.int .i64 k,.int .u64 m,.string s,lv,.int .i64 e] 25)).heap.size=w.heap.size+1 by simp] at h1
  rw [←hW1,h1];simpa using hu
 rw [hW1]
 clear hW1
 have gu:Hid (∀ w',Below W1.heap.size W1 w'→(Below W1.heap.size W1 w'∧w'.cell? ⟨w.heap.size,0,none⟩=some (.int .i64 k)∧w'.cell? ⟨w.heap.size,1,none⟩=some (.int .u64 m)∧w'.cell? ⟨w.heap.size,2,none⟩=some (.string s)∧w'.cell? ⟨w.heap.size+1,0,none⟩=some (.int .i64 k')∧w'.cell? ⟨w.heap.size+1,1,none⟩=some (.int .u64 m')∧w'.cell? ⟨w.heap.size+1,2,none⟩=some (.string s'))):=fun w' h=>
  have q:∀ b o,b<W1.heap.size→w'.cell? ⟨b,o,none⟩=W1.cell? ⟨b,o,none⟩:=fun b o hb=>h.cell (p:=⟨b,o,none⟩) hb
  ⟨h,(q _ _ (by omega)).trans (hc 0 _ rfl),(q _ _ (by omega)).trans (hc 1 _ rfl),(q _ _ (by omega)).trans (hc 2 _ rfl),(q _ _ (by omega)).trans (hc' 0 _ rfl),(q _ _ (by omega)).trans (hc' 1 _ rfl),(q _ _ (by omega)).trans (hc' 2 _ rfl)⟩
 have Yr:Hid (∀ w',Below W1.heap.size W1 w'→(Below W1.heap.size W1 w'∧w'.cell? ⟨w.heap.size,3,none⟩=some lv∧w'.cell? ⟨w.heap.size,4,none⟩=some (.int .i64 e)∧w'.cell? ⟨w.heap.size+1,3,none⟩=some gM∧w'.cell? ⟨w.heap.size+1,4,none⟩=some (.int .i64 e'))):=fun w' h=>
  have q:∀ b o,b<W1.heap.size→w'.cell? ⟨b,o,none⟩=W1.cell? ⟨b,o,none⟩:=fun b o hb=>h.cell (p:=⟨b,o,none⟩) hb
  ⟨h,(q _ _ (by omega)).trans (hc 3 _ rfl),(q _ _ (by omega)).trans (hc 4 _ rfl),(q _ _ (by omega)).trans (hc' 3 _ rfl),(q _ _ (by omega)).trans (hc' 4 _ rfl)⟩
 clear hc hc'
 obtain ⟨_,a0,a1,a2,b0,b1,b2⟩:=gu.out W1 (Below.refl _ _)
 go_region_held3 (fun w'=>Below W1.heap.size W1 w'∧w'.cell? ⟨w.heap.size,0,none⟩=some (.int .i64 k)∧w'.cell? ⟨w.heap.size,1,none⟩=some (.int .u64 m)∧w'.cell? ⟨w.heap.size,2,none⟩=some (.string s)∧w'.cell? ⟨w.heap.size+1,0,none⟩=some (.int .i64 k')∧w'.cell? ⟨w.heap.size+1,1,none⟩=some (.int .u64 m')∧w'.cell? ⟨w.heap.size+1,2,none⟩=some (.string s'))
  (first
    |exact gu.out _ (Below.refl _ _)
    |exact gu.out _ (Below.refl _ _).drew
    |exact gu.out _ ((Below.refl _ _).drew.alloc (by simp) _)
    |assumption)
  ((first
    |(go_at_call 185;refine (C0.out _).mono ?_;rintro r w2 ⟨rfl,rfl⟩)
    |(go_at_call 186;refine (C1.out _).mono ?_;rintro r w2 ⟨rfl,rfl⟩)
    |(go_at_call 187;refine (C2.out _).mono ?_;rintro r w2 ⟨rfl,rfl⟩)
    |(go_at_call 184;refine (or3 _ _ _ _ _ _ (JA hz1 0 _ rfl) (JA hz1 1 _ rfl) (JA hz1 2 _ rfl)).mono ?_;rintro r w2 ⟨rfl,rfl⟩)))
 obtain ⟨W2,hW2⟩:∃ W2,(W1.alloc (.cells #[.int .i64 X0,.int .i64 X1,.int .i64 X2] 3)).drew=W2:=⟨_,rfl⟩
 have hg2:bz W1 W2:=by rw [←hW2];exact ((bz.refl _).alloc _).drew
 have hz2:W2.heap.size=w.heap.size+3:=by rw [←hW2];simp;omega
 obtain ⟨Y,hY⟩:∃ Y,seq X0 (seq X1 X2)=Y:=⟨_,rfl⟩
 have HRY:Hid (seq Y (seq X3 X4)=R):=by rw [←hY];exact HR.out
 rw [hW2,hY]
 clear HR hW2 hY a0 a1 a2 b0 b1 b2 C0 C1 C2
 by_cases hn:Y=0
 ·subst hn
  have hs:Hid (seq X3 X4=R):=by rw [←HRY.out];show seq X3 X4=seq 0 (seq X3 X4);unfold seq;simp
  clear HRY
  have Na:Hid (∀ w',Below W2.heap.size W2 w'→(Below W2.heap.size W2 w'∧w'.cell? ⟨w.heap.size,3,none⟩=some lv∧w'.cell? ⟨w.heap.size,4,none⟩=some (.int .i64 e)∧w'.cell? ⟨w.heap.size+1,3,none⟩=some gM∧w'.cell? ⟨w.heap.size+1,4,none⟩=some (.int .i64 e'))):=fun w' h=>
   ⟨h,(Yr.out w' (hg2.below.trans (h.mono hg2.size))).2⟩
  have EJ:Hid (∀ w',Below W2.heap.size W2 w'→bR B w' N lv l∧bR B w' N gM l'∧B≤w'.heap.size):=fun w' h=>
   have hb:Below B w w':=((hg1.trans hg2).below.trans (h.mono (hg1.trans hg2).size)).mono hB
   ⟨HL.out.below hb,Yh.out.below hb,by have:=h.size;omega⟩
  clear gu Yr HL Yh
  obtain ⟨_,a3,a4,b3,b4⟩:=Na.out W2 (Below.refl _ _)
  go_wp2
  go_region_held3 (fun w'=>Below W2.heap.size W2 w'∧w'.cell? ⟨w.heap.size,3,none⟩=some lv∧w'.cell? ⟨w.heap.size,4,none⟩=some (.int .i64 e)∧w'.cell? ⟨w.heap.size+1,3,none⟩=some gM∧w'.cell? ⟨w.heap.size+1,4,none⟩=some (.int .i64 e'))
   (first
     |exact Na.out _ (Below.refl _ _)
     |exact Na.out _ (Below.refl _ _).drew
     |exact Na.out _ ((Below.refl _ _).drew.trans hg3.below)
     |exact Na.out _ (((Below.refl _ _).drew.trans hg3.below).alloc ahT _)
     |assumption)
   ((first
     |(go_at_call 185;refine (C4.out _).mono ?_;rintro r w2 ⟨rfl,rfl⟩)
     |(go_at_call 188;refine (HS.out B lv gM l l' W2.drew (EJ.out _ (Below.refl _ _).drew).1 (EJ.out _ (Below.refl _ _).drew).2.1 (EJ.out _ (Below.refl _ _).drew).2.2).mono ?_;rintro r w3 ⟨hr,hg3⟩;rw [H3.out] at hr;subst hr;have ahT:W2.heap.size≤w3.heap.size:=hg3.size)
     |(go_at_call 184;refine (or2 _ _ _ _ _ (M8 _ _ _ 0 _ rfl) (M8 _ _ _ 1 _ rfl)).mono ?_;rintro r w4 ⟨rfl,rfl⟩)))
  all_goals
   go_wp2
   go_ret
   exact ⟨ko hs.out,(hg1.trans hg2).trans ((((bz.refl W2).drew).trans hg3).alloc _)⟩
 ·have hb:(Y !=0)=true:=by simpa using hn
  have hs:Hid (Y=R):=by rw [←HRY.out];show Y=seq Y (seq X3 X4);unfold seq;simp [hn]
  clear hn HRY gu Yr
  go_wp2
  go_ret
  exact ⟨ko hs.out,hg1.trans hg2⟩
theorem ae7:∀ N,ae6 N:=by
 intro N
 induction N with
 |zero=>intro B lv gM l l' w h;exact h.elim
 |succ N ih=>
  intro B lv gM l l' w hl hl' hB
  have HS:=ajd ih
  have HL:=ajd hl
  have Yh:=ajd hl'
  obtain ⟨p,c,rfl⟩:=hl.slice
  obtain ⟨p',c',rfl⟩:=hl'.slice
  have hlen:l.length≤9223372036854775807:=hl.len
  have hlen':l'.length≤9223372036854775807:=hl'.len
  clear hl hl' ih
  obtain ⟨n,hn⟩:∃ n,l.length=n:=⟨_,rfl⟩
  obtain ⟨n',hn'⟩:∃ n,l'.length=n:=⟨_,rfl⟩
  have Hn:=ajd hn
  have Qc:=ajd hn'
  rw [hn] at hlen HL ⊢
  rw [hn'] at hlen' Yh ⊢
  clear hn hn'
  go_enter Tryz.func188,Tryz.ntmps188
  go_wp2
  go_loopw [13] (fun i wr=>∃ (j:Nat),i= .int .i64 j∧j≤n∧j≤n'∧Hid (cO (l.drop j) (l'.drop j)=cO l l')∧bz w wr) (fun i _=>n-(intOf i).toNat)
  case atStart=>exact ⟨0,rfl,Nat.zero_le _,Nat.zero_le _,rfl,bz.refl _⟩
  case round=>
   obtain ⟨j,rfl,hj,hj',HQ,hg⟩:=hrel
   have HG:=ajd hg
   clear hg
   by_cases hlt:j<n
   ·rcases HL.out with ⟨h0,_⟩|⟨b,off,c0,hp,jy,_,hel⟩
    ·rw [←Hn.out,h0] at hlt;exact absurd hlt (by simp)
    obtain ⟨t,ht⟩:∃ t,l[j]? =some t:=⟨_,List.getElem?_eq_getElem (by rw [Hn.out];exact hlt)⟩
    obtain ⟨hf,lv,hat,hl⟩:=hel j t ht
    obtain ⟨pe,ce,rfl⟩:=hl.slice
    have hbw:Below B w wr:=HG.out.below.mono hB
    have wI:=HG.out.size
    obtain ⟨e0,e1,e2,e3,e4⟩:=hat.below hbw jy
    rw [Hn.out] at hp
    cases hp
    by_cases hlt':j<n'
    ·rcases Yh.out with ⟨h0,_⟩|⟨b',off',c0',hp',Yi,_,MU⟩
     ·rw [←Qc.out,h0] at hlt';exact absurd hlt' (by simp)
     rw [Qc.out] at hp'
     cases hp'
     obtain ⟨t',ht'⟩:∃ t,l'[j]? =some t:=⟨_,List.getElem?_eq_getElem (by rw [Qc.out];exact hlt')⟩
     obtain ⟨hf',gM,hat',hl'⟩:=MU j t' ht'
     obtain ⟨pe',ce',rfl⟩:=hl'.slice
     obtain ⟨f0,f1,f2,f3,f4⟩:=hat'.below hbw Yi
     have EJ:Hid (∀ w',Below wr.heap.size wr w'→bR B w' N (.slice pe t.list.length ce) t.list∧bR B w' N (.slice pe' t'.list.length ce') t'.list∧B≤w'.heap.size):=fun w' h=>
      have hb:Below B w w':=hbw.trans (h.mono (by omega))
      ⟨hl.below hb,hl'.below hb,by have:=h.size;omega⟩
     have hst:=ajd (Ob ht ht')
     have hi0:(0:Int)≤(j:Int):=by omega
     have hi1:(j:Int)<(n:Int):=by omega
     have hi2:(j:Int)<(n':Int):=by omega
     have hb0:b<wr.heap.size:=by omega
     have aeS:b'<wr.heap.size:=by omega
     obtain ⟨X,hX⟩:∃ X,jr t t'=X:=⟨_,rfl⟩
     rw [hX] at hst
     have HX:=ajd hX
     clear hel MU hat hat' hl hl' ht ht' hX
     have HC:Hid (∀ w',bz wr w'→Calls Tryz.prog 159 #[.agg #[.int .i64 t.kind,.int .u64 t.num,.string t.text,.slice pe t.list.length ce,.int .i64 t.elem],.agg #[.int .i64 t'.kind,.int .u64 t'.num,.string t'.text,.slice pe' t'.list.length ce',.int .i64 t'.elem]] w' fun r w''=>r= .returned (.int .i64 X)∧bz w' w''):=fun w' h=>by
      have hh:=EJ.out w' h.below
      have:=EI HS.out B t.kind t.num t.text t.elem t.list (.slice pe t.list.length ce) t'.kind t'.num t'.text t'.elem t'.list (.slice pe' t'.list.length ce') w' hh.1 hh.2.1 hh.2.2
      rwa [VT.eta,VT.eta,HX.out] at this
     clear EJ
     by_cases hn:X=0
     ·subst hn
      have DL:Hid (cO (l.drop (j+1)) (l'.drop (j+1))=cO l l'):=by
       show cO _ _=_;rw [←HQ.out,hst.out,aed]
      clear hst
      go_wp2_with (go_at_call 159;refine (HC.out _ (((bz.refl _).alloc _).alloc _)).mono ?_;rintro r w2 ⟨rfl,hg2⟩)
      go_roundw
      case rel=>exact ⟨j+1,by go_num,by omega,by omega,DL.out,HG.out.trans ((((bz.refl _).alloc _).alloc _).trans hg2)⟩
      case measure=>simp [intOf];omega
     ·have hb:(X !=0)=true:=by simpa using hn
      have DL:Hid (X=cO l l'):=by
       show X=_;rw [←HQ.out,hst.out,aco hn]
      clear hst hn
      go_wp2_with (go_at_call 159;refine (HC.out _ (((bz.refl _).alloc _).alloc _)).mono ?_;rintro r w2 ⟨rfl,hg2⟩)
      go_ret
      exact ⟨ko DL.out,HG.out.trans ((((bz.refl _).alloc _).alloc _).trans hg2)⟩
    ·have HE:Hid (1=cO l l'):=by
      show 1=_;rw [←HQ.out,Oc (by rw [Hn.out];exact hlt) (by rw [Qc.out];omega)]
     have hi0:(0:Int)≤(j:Int):=by omega
     have hi1:(j:Int)<(n:Int):=by omega
     clear hel hat hl ht
     go_wp2
     go_ret
     exact ⟨ko HE.out,HG.out.trans ((bz.refl _).alloc _)⟩
   ·obtain rfl:j=n:=by omega
    have HE:Hid ((if j<n' then -1 else 0)=cO l l'):=by
     show _=_;rw [←HQ.out,SI (by rw [Hn.out];exact Nat.le_refl _),Qc.out]
    by_cases hlt':j<n'
    ·have HE2:Hid (-1=cO l l'):=by show -1=_;rw [←HE.out,if_pos hlt']
     go_wp2
     go_ret
     exact ⟨ko HE2.out,HG.out⟩
    ·have HE2:Hid (0=cO l l'):=by show 0=_;rw [←HE.out,if_neg hlt']
     go_wp2
     go_ret
     exact ⟨ko HE2.out,HG.out⟩
end Go.Proofs.YtmldhjoolebjoaaGreatDoor.Va
namespace Go.Proofs.YtmldhjoolebjoaaGreatDoor.Va
open Go Go.RowKit Nu
abbrev ahU:Value:= .func (.func 50) #[] #[]
def EqS (N:Nat):Prop:=∀ (B:Nat) (lv gM:Value) (l l':List VT) (w:World),bR B w N lv l→bR B w N gM l'→B≤w.heap.size→
    Calls Tryz.prog 73 #[lv,gM,ahU] w fun e w'=>e= .returned (.bool (iQ l l'))∧bz w w'
theorem Yt {N:Nat} (hS:EqS N) (B:Nat) (k m:Int) (s:ByteArray) (e:Int) (l:List VT) (lv:Value) (k' m':Int) (s':ByteArray) (e':Int) (l':List VT) (gM:Value) (w:World) (hl:bR B w N lv l) (hl':bR B w N gM l') (hB:B≤w.heap.size):
 Calls Tryz.prog 50 #[.agg #[.int .i64 k,.int .u64 m,.string s,lv,.int .i64 e],.agg #[.int .i64 k',.int .u64 m',.string s',gM,.int .i64 e']] w fun r w'=>r= .returned (.bool (mM (.mk k m s e l) (.mk k' m' s' e' l')))∧bz w w':=by
 have EJ:Hid (∀ w',bz w w'→bR B w' N lv l∧bR B w' N gM l'∧B≤w'.heap.size):=fun w' h=>
  have hb:Below B w w':=h.below.mono hB
  ⟨hl.below hb,hl'.below hb,by have:=h.size;omega⟩
 have HS:=ajd hS
 clear hl hl' hS
 have HE:=ajd (Cm (.mk k m s e l) (.mk k' m' s' e' l'))
 obtain ⟨R,hR⟩:∃ R,mM (.mk k m s e l) (.mk k' m' s' e' l')=R:=⟨_,rfl⟩
 rw [hR] at HE ⊢
 clear hR
 by_cases hh:k=k'∧m=m'∧s=s'∧e=e'
 ·obtain ⟨rfl,rfl,rfl,rfl⟩:=hh
  have HE2:Hid (iQ l l'=R):=by show iQ l l'=R;rw [HE.out];simp [VT.kind,VT.num,VT.text,VT.elem,VT.list]
  clear HE
  go_enter Tryz.func50,Tryz.ntmps50
  go_wp2_with (go_at_call 73;refine (HS.out B lv gM l l' _ (EJ.out _ (((bz.refl _).alloc _).alloc _)).1 (EJ.out _ (((bz.refl _).alloc _).alloc _)).2.1 (EJ.out _ (((bz.refl _).alloc _).alloc _)).2.2).mono ?_;rintro r w2 ⟨hr,hg2⟩;rw [HE2.out] at hr;subst hr)
  go_ret
  exact ⟨rfl,(((bz.refl _).alloc _).alloc _).trans hg2⟩
 ·have HN:=ajd hh
  have HE2:Hid (R=false):=by
   show R=false
   rw [HE.out]
   by_cases h1:k=k'<;>by_cases h2:m=m'<;>by_cases h4:e=e'<;>simp_all [VT.kind,VT.num,VT.text,VT.elem,VT.list]
   exact fun h=>absurd (toList_inj h) hh
  clear hh HE
  go_enter Tryz.func50,Tryz.ntmps50
  go_wp2_with (go_at_call 73;exfalso;exact HN.out ⟨by assumption,by assumption,toList_inj (by assumption),by assumption⟩)
  all_goals
   go_ret
   exact ⟨ay HE2.out.symm,((bz.refl _).alloc _).alloc _⟩
theorem ahV:∀ N,EqS N:=by
 intro N
 induction N with
 |zero=>intro B lv gM l l' w h;exact h.elim
 |succ N ih=>
  intro B lv gM l l' w hl hl' hB
  have HS:=ajd ih
  have HL:=ajd hl
  have Yh:=ajd hl'
  obtain ⟨p,c,rfl⟩:=hl.slice
  obtain ⟨p',c',rfl⟩:=hl'.slice
  have hlen:l.length≤9223372036854775807:=hl.len
  have hlen':l'.length≤9223372036854775807:=hl'.len
  clear hl hl' ih
  by_cases hll:l.length=l'.length
  ·obtain ⟨n,hn⟩:∃ n,l.length=n:=⟨_,rfl⟩
   have hn':l'.length=n:=by omega
   have Hn:=ajd hn
   have Qc:=ajd hn'
   rw [hn] at hlen HL ⊢
   rw [hn'] at Yh ⊢
   clear hn hn' hll hlen'
   go_enter Tryz.func73,Tryz.ntmps73
   go_wp2
   go_loopw [17] (fun i wr=>∃ (j:Nat),i= .int .i64 j∧j≤n∧Hid (iQ (l.drop j) (l'.drop j)=iQ l l')∧bz w wr) (fun i _=>n-(intOf i).toNat)
   case atStart=>exact ⟨0,rfl,Nat.zero_le _,rfl,bz.refl _⟩
   case round=>
    obtain ⟨j,rfl,hj,HQ,hg⟩:=hrel
    have HG:=ajd hg
    clear hg
    by_cases hlt:j<n
    ·rcases HL.out with ⟨h0,_⟩|⟨b,off,c0,hp,jy,_,hel⟩
     ·rw [←Hn.out,h0] at hlt;exact absurd hlt (by simp)
     rcases Yh.out with ⟨h0,_⟩|⟨b',off',c0',hp',Yi,_,MU⟩
     ·rw [←Qc.out,h0] at hlt;exact absurd hlt (by simp)
     rw [Hn.out] at hp
     rw [Qc.out] at hp'
     cases hp
     cases hp'
     obtain ⟨t,ht⟩:∃ t,l[j]? =some t:=⟨_,List.getElem?_eq_getElem (by rw [Hn.out];exact hlt)⟩
     obtain ⟨t',ht'⟩:∃ t,l'[j]? =some t:=⟨_,List.getElem?_eq_getElem (by rw [Qc.out];exact hlt)⟩
     obtain ⟨hf,lv,hat,hl⟩:=hel j t ht
     obtain ⟨hf',gM,hat',hl'⟩:=MU j t' ht'
     obtain ⟨pe,ce,rfl⟩:=hl.slice
     obtain ⟨pe',ce',rfl⟩:=hl'.slice
     have hbw:Below B w wr:=HG.out.below.mono hB
     have wI:=HG.out.size
     obtain ⟨e0,e1,e2,e3,e4⟩:=hat.below hbw jy
     obtain ⟨f0,f1,f2,f3,f4⟩:=hat'.below hbw Yi
     have hst:=ajd (F7 ht ht')
     have hi0:(0:Int)≤(j:Int):=by omega
     have hi1:(j:Int)<(n:Int):=by omega
     have hb0:b<wr.heap.size:=by omega
     have aeS:b'<wr.heap.size:=by omega
     obtain ⟨X,hX⟩:∃ X,mM t t'=X:=⟨_,rfl⟩
     rw [hX] at hst
     have HC:Hid (∀ w',bz wr w'→Calls Tryz.prog 50 #[.agg #[.int .i64 t.kind,.int .u64 t.num,.string t.text,.slice pe t.list.length ce,.int .i64 t.elem],.agg #[.int .i64 t'.kind,.int .u64 t'.num,.string t'.text,.slice pe' t'.list.length ce',.int .i64 t'.elem]] w' fun r w''=>r= .returned (.bool X)∧bz w' w''):=fun w' h=>by
      have hb:Below B w w':=hbw.trans (h.below.mono (by omega))
      have:=Yt HS.out B t.kind t.num t.text t.elem t.list (.slice pe t.list.length ce) t'.kind t'.num t'.text t'.elem t'.list (.slice pe' t'.list.length ce') w' (hl.below hb) (hl'.below hb) (by have:=h.size;omega)
      rwa [VT.eta,VT.eta,hX] at this
     clear hel MU hat hat' hl hl' ht ht' hX
     cases X with
     |true=>
      have DL:Hid (iQ (l.drop (j+1)) (l'.drop (j+1))=iQ l l'):=by
       show iQ _ _=_;rw [←HQ.out,hst.out,Bool.true_and]
      clear hst
      go_wp2_with (go_at_call 50;refine (HC.out _ (((bz.refl _).alloc _).alloc _)).mono ?_;rintro r w2 ⟨rfl,hg2⟩)
      go_roundw
      case rel=>exact ⟨j+1,by go_num,by omega,DL.out,HG.out.trans ((((bz.refl _).alloc _).alloc _).trans hg2)⟩
      case measure=>simp [intOf];omega
     |false=>
      have DL:Hid (false=iQ l l'):=by
       show false=_;rw [←HQ.out,hst.out,Bool.false_and]
      clear hst
      go_wp2_with (go_at_call 50;refine (HC.out _ (((bz.refl _).alloc _).alloc _)).mono ?_;rintro r w2 ⟨rfl,hg2⟩)
      go_ret
      exact ⟨ay DL.out,HG.out.trans ((((bz.refl _).alloc _).alloc _).trans hg2)⟩
    ·obtain rfl:j=n:=by omega
     go_wp2
     go_ret
     exact ⟨ay (by rw [←HQ.out,←Hn.out,Kj (by rw [Hn.out,Qc.out])]),HG.out⟩
  ·have HE:=ajd (Cn hll)
   have hb:((l.length:Int)!=(l'.length:Int))=true:=by simp;omega
   have Hll:=ajd hll
   clear hll
   go_enter Tryz.func73,Tryz.ntmps73
   go_wp2
   go_ret
   exact ⟨ay HE.out.symm,bz.refl _⟩
theorem Qh {N B:Nat} {t t':VT} {v v':Value} {w:World} (h:Zu B w N v t) (h':Zu B w N v' t') (hB:B≤w.heap.size):
 Calls Tryz.prog 50 #[v,v'] w fun r w'=>r= .returned (.bool (mM t t'))∧bz w w':=by
 obtain ⟨_,lv,rfl,hl⟩:=h
 obtain ⟨_,gM,rfl,hl'⟩:=h'
 have:=Yt (ahV N) B t.kind t.num t.text t.elem t.list lv t'.kind t'.num t'.text t'.elem t'.list gM w hl hl' hB
 rwa [VT.eta,VT.eta] at this
def JB (l:List VT) (el:Int):Option Nat:=l.findIdx? fun t=>decide (t.kind≠el)
def uN (l:List VT) (el:Int):Int:=match JB l el with|some j=>(j:Int)|none=> -1
theorem Qi {l:List VT} {el:Int} {j:Nat} {t:VT} (ht:l[j]? =some t) (hk:t.kind≠el) (hlo:∀ i u,i<j→l[i]? =some u→u.kind=el):uN l el=j:=by
 unfold uN JB
 have:l.findIdx? (fun t=>decide (t.kind≠el))=some j:=by
  rw [List.findIdx?_eq_some_iff_getElem]
  obtain ⟨hj,hg⟩:=List.getElem?_eq_some_iff.1 ht
  refine ⟨hj,by rw [hg];simpa using hk,fun i hi=>?_⟩
  have:=hlo i l[i] hi (List.getElem?_eq_getElem (by omega))
  simpa using this
 rw [this]
theorem BF {l:List VT} {el:Int} (hlo:∀ i u,i<l.length→l[i]? =some u→u.kind=el):uN l el= -1:=by
 unfold uN JB
 have:l.findIdx? (fun t=>decide (t.kind≠el))=none:=by
  rw [List.findIdx?_eq_none_iff]
  intro x hx
  obtain ⟨i,hi,rfl⟩:=List.getElem_of_mem hx
  have:=hlo i l[i] hi (List.getElem?_eq_getElem hi)
  simpa using this
 rw [this]
theorem Qj (l:List VT) (el:Int):decide (0≤uN l el)= !(l.all fun t=>decide (t.kind=el)):=by
 by_cases h:l.all (fun t=>decide (t.kind=el))=true
 ·rw [h,BF fun i u hi hu=>by simpa using List.all_eq_true.1 h u (List.mem_of_getElem? hu)]
  decide
 ·have h':l.all (fun t=>decide (t.kind=el))=false:=by simpa using h
  rw [h']
  unfold uN JB
  cases hf:l.findIdx? (fun t=>decide (t.kind≠el)) with
  |none=>
   exfalso
   apply h
   rw [List.findIdx?_eq_none_iff] at hf
   rw [List.all_eq_true]
   intro x hx
   have:=hf x hx
   simpa using this
  |some j=>simp
abbrev abU (bx:Nat):Value:= .func (.func 161) #[] #[.pointer (some ⟨bx,0,none⟩)]
theorem R4 (k m:Int) (s:ByteArray) (lv:Value) (e el:Int) (bx:Nat) (w:World) (hc:w.cell? ⟨bx,4,none⟩=some (.int .i64 el)) (hb:bx<w.heap.size):
 Calls Tryz.prog 161 #[.agg #[.int .i64 k,.int .u64 m,.string s,lv,.int .i64 e],.pointer (some ⟨bx,0,none⟩)] w fun r w'=>r= .returned (.bool (decide (k≠el)))∧bz w w':=by
 go_enter Tryz.func161,Tryz.ntmps161
 go_wp2
 go_ret
 refine ⟨ay ?_,(bz.refl _).alloc _⟩
 rw [Bool.eq_iff_iff];simp
theorem UU {N B:Nat} {lv:Value} {l:List VT} (el:Int) (bx:Nat) (w:World) (hl:bR B w N lv l) (hB:B≤w.heap.size) (hc:w.cell? ⟨bx,4,none⟩=some (.int .i64 el)) (hb:bx<w.heap.size):
 Calls Tryz.prog 189 #[lv,abU bx] w fun r w'=>r= .returned (.int .i64 (uN l el))∧bz w w':=by
 have HL:=ajd hl
 obtain ⟨p,c,rfl⟩:=hl.slice
 have hlen:l.length≤9223372036854775807:=hl.len
 clear hl
 obtain ⟨n,hn⟩:∃ n,l.length=n:=⟨_,rfl⟩
 have Hn:=ajd hn
 rw [hn] at hlen HL ⊢
 clear hn
 go_enter Tryz.func189,Tryz.ntmps189
 go_wp2
 go_loopw [8] (fun i wr=>∃ (j:Nat),i= .int .i64 j∧j≤n∧Hid (∀ i u,i<j→l[i]? =some u→u.kind=el)∧bz w wr) (fun i _=>n-(intOf i).toNat)
 case atStart=>exact ⟨0,rfl,Nat.zero_le _,fun i u h=>by omega,bz.refl _⟩
 case round=>
  obtain ⟨j,rfl,hj,HQ,hg⟩:=hrel
  have HG:=ajd hg
  have hcw:wr.cell? ⟨bx,4,none⟩=some (.int .i64 el):=(hg.below.cell (p:=⟨bx,4,none⟩) hb).trans hc
  have hbw:=hg.below.mono hB
  have wI:=hg.size
  clear hg
  by_cases hlt:j<n
  ·cases N with
   |zero=>exact HL.out.elim
   |succ N=>
    rcases HL.out with ⟨h0,_⟩|⟨b,off,c0,hp,jy,_,hel⟩
    ·rw [←Hn.out,h0] at hlt;exact absurd hlt (by simp)
    rw [Hn.out] at hp
    cases hp
    obtain ⟨t,ht⟩:∃ t,l[j]? =some t:=⟨_,List.getElem?_eq_getElem (by rw [Hn.out];exact hlt)⟩
    obtain ⟨hf,lv,hat,hl⟩:=hel j t ht
    obtain ⟨e0,e1,e2,e3,e4⟩:=hat.below hbw jy
    have hi0:(0:Int)≤(j:Int):=by omega
    have hi1:(j:Int)<(n:Int):=by omega
    have HT:=ajd ht
    clear hel hat hl ht
    by_cases hk:t.kind=el
    ·have hd:decide (t.kind≠el)=false:=by simp [hk]
     have HK:=ajd hk
     have HC:=ajd (R4 t.kind t.num t.text lv t.elem el bx wr hcw (by omega))
     rw [hd] at HC
     clear hk hd
     go_wp2_with (go_at_call 161;refine HC.out.mono ?_;rintro r w2 ⟨rfl,hg2⟩)
     go_roundw
     case rel=>exact ⟨j+1,by go_num,by omega,fun i u hi hu=>by
      by_cases h:i=j
      ·rw [h,HT.out] at hu;cases hu;exact HK.out
      ·exact HQ.out i u (by omega) hu,HG.out.trans hg2⟩
     case measure=>simp [intOf];omega
    ·have hd:decide (t.kind≠el)=true:=by simp [hk]
     have HI:=ajd (Qi HT.out hk HQ.out)
     have HC:=ajd (R4 t.kind t.num t.text lv t.elem el bx wr hcw (by omega))
     rw [hd] at HC
     clear hk hd
     go_wp2_with (go_at_call 161;refine HC.out.mono ?_;rintro r w2 ⟨rfl,hg2⟩)
     go_ret
     exact ⟨ko HI.out.symm,HG.out.trans hg2⟩
  ·obtain rfl:j=n:=by omega
   go_wp2
   go_ret
   exact ⟨ko (BF fun i u hi hu=>HQ.out i u (by rw [←Hn.out];exact hi) hu).symm,HG.out⟩
theorem JC {N B:Nat} {lv:Value} {l:List VT} (el:Int) (bx:Nat) (w:World) (hl:bR B w N lv l) (hB:B≤w.heap.size) (hc:w.cell? ⟨bx,4,none⟩=some (.int .i64 el)) (hb:bx<w.heap.size):
 Calls Tryz.prog 160 #[lv,abU bx] w fun r w'=>r= .returned (.bool (!(l.all fun t=>decide (t.kind=el))))∧bz w w':=by
 have HC:=ajd (UU el bx w hl hB hc hb)
 have HA:=ajd (Qj l el)
 obtain ⟨R,hR⟩:∃ R,(!(l.all fun t=>decide (t.kind=el)))=R:=⟨_,rfl⟩
 obtain ⟨p,c,rfl⟩:=hl.slice
 rw [hR] at HA ⊢
 obtain ⟨I,hI⟩:∃ I,uN l el=I:=⟨_,rfl⟩
 rw [hI] at HA HC
 clear hl hR hI
 go_enter Tryz.func160,Tryz.ntmps160
 go_wp2_with (go_at_call 189;refine HC.out.mono ?_;rintro r w2 ⟨rfl,hg2⟩)
 go_ret
 exact ⟨ay HA.out,hg2⟩
theorem UW {N B:Nat} (k m:Int) (s:ByteArray) (lv:Value) (e:Int) (l:List VT) (w:World) (hl:bR B w N lv l) (hB:B≤w.heap.size):
 Calls Tryz.prog 118 #[.agg #[.int .i64 k,.int .u64 m,.string s,lv,.int .i64 e]] w fun r w'=>r= .returned (.bool (rT e l))∧bz w w':=by
 obtain ⟨p,c,rfl⟩:=hl.slice
 have HL:=ajd hl
 clear hl
 by_cases he:0<e∧e<24
 ·obtain ⟨h0,h1⟩:=he
  obtain ⟨W1,hW1⟩:∃ W1,w.alloc (.cells #[.int .i64 k,.int .u64 m,.string s,.slice p l.length c,.int .i64 e] 25)=W1:=⟨_,rfl⟩
  have hg1:bz w W1:=by rw [←hW1];exact (bz.refl _).alloc _
  have HC:=ajd (JC e w.heap.size W1 (HL.out.below (hg1.below.mono hB)) (by have:=hg1.size;omega) (by rw [←hW1];simp) (by rw [←hW1];simp))
  rw [←hW1] at HC hg1
  have HG:=ajd hg1
  clear hW1 hg1
  have HR:Hid (rT e l=l.all fun t=>decide (t.kind=e)):=by show rT e l=_;simp [rT,h0,h1]
  obtain ⟨R,hR⟩:∃ R,(l.all fun t=>decide (t.kind=e))=R:=⟨_,rfl⟩
  rw [hR] at HC HR
  rw [HR.out]
  clear hR
  go_enter Tryz.func118,Tryz.ntmps118
  go_wp2_with (go_at_call 160;refine HC.out.mono ?_;rintro r w2 ⟨rfl,hg2⟩)
  go_ret
  exact ⟨ay (by simp),HG.out.trans hg2⟩
 ·have HR:Hid (rT e l=false):=by
   show rT e l=false
   unfold rT
   by_cases h0:0<e
   ·have h1:¬e<24:=fun h=>he ⟨h0,h⟩
    simp [h1]
   ·simp [h0]
  rw [HR.out]
  have he':e≤0∨24≤e:=by omega
  clear he
  rcases he' with h|h
  all_goals
   go_enter Tryz.func118,Tryz.ntmps118
   go_wp2
   all_goals first
    |(go_ret;exact ⟨rfl,(bz.refl _).alloc _⟩)
    |(exfalso;omega)
end Go.Proofs.YtmldhjoolebjoaaGreatDoor.Va
namespace Go.Proofs.YtmldhjoolebjoaaGreatDoor.Va
open Go Go.RowKit Go.Shelf Go.Sort Nu
theorem EK {α:Type} [Inhabited α] (enc:α→List Value) (k:Nat) (w:World) (B blk off m:Nat) (dk:Array α) (os:Array Obj) (hB:B≤blk) (hblk:blk<w.heap.size):Below B w (sortWorldK enc k w blk off m dk os):=by
 refine ⟨rfl,rfl,rfl,size_sortWorldK_c enc k w blk off m dk os,fun j hj=>?_⟩
 have h1:(sortWorldK enc k w blk off m dk os).heap=w.heap.modify blk (onCells (putCells id off (flatK enc k dk)))++os:=rfl
 rw [h1,Array.getElem?_append_left (by rw [Array.size_modify];omega),Array.getElem?_modify,if_neg (by omega)]
abbrev Elt (B:Nat) (w:World) (N:Nat):Type:={x:VT×Value // bR B w N x.2 x.1.list}
def lF {B:Nat} {w:World} {N:Nat} (x:Elt B w N):List Value:=x.1.1.cells x.1.2
def Qk {B:Nat} {w:World} {N:Nat} (x y:Elt B w N):Int:=jr x.1.1 y.1.1
theorem aaO {B:Nat} {w:World} {N:Nat}:SWO (ltOf (Qk (B:=B) (w:=w) (N:=N))) where
 irrefl x:=(Il Ik).irrefl x.1.1
 trans x y z:=(Il Ik).trans x.1.1 y.1.1 z.1.1
 ntrans x y z:=(Il Ik).ntrans x.1.1 y.1.1 z.1.1
theorem aaP {B:Nat} {w:World} {N:Nat} (x:Elt B w N):∀ v∈lF x,v.oneCell'=true:=by
 obtain ⟨⟨t,lv⟩,h⟩:=x
 obtain ⟨p,c,hs⟩:=bR.slice h
 intro v hv
 simp only [lF,VT.cells,List.mem_cons,List.not_mem_nil,or_false] at hv
 have hs':lv= .slice p t.list.length c:=hs
 rcases hv with rfl|rfl|rfl|rfl|rfl
 ·rfl
 ·rfl
 ·rfl
 ·rw [hs'];rfl
 ·rfl
theorem Ql {B:Nat} {w:World} {N:Nat} [Inhabited (Elt B w N)] (blk size:Nat) (hB:B≤blk) (hblk:blk<w.heap.size):CmpLays Tryz.prog 159 #[] (lF (B:=B) (w:=w) (N:=N)) 5 Qk blk 0 size w:=by
 intro m os dk _ x y
 have hb:=EK (lF (B:=B) (w:=w) (N:=N)) 5 w B blk 0 m dk os hB hblk
 have hsz:B≤(sortWorldK (lF (B:=B) (w:=w) (N:=N)) 5 w blk 0 m dk os).heap.size:=by have:=hb.size;omega
 have:=EI (ae7 N) B x.1.1.kind x.1.1.num x.1.1.text x.1.1.elem x.1.1.list x.1.2 y.1.1.kind y.1.1.num y.1.1.text y.1.1.elem y.1.1.list y.1.2 _ (x.2.below hb) (y.2.below hb) hsz
 rw [VT.eta,VT.eta] at this
 exact this
def R5 (w:World) (g:Nat) (d:List (VT×Value)):Prop:=∀ i x,d[i]? =some x→pO w g (i*5) x.1 x.2
def Sorted (B:Nat) (w:World) (N g:Nat) (d:List (VT×Value)) (r:Ending) (w':World):Prop:=
 r= .returned (.tuple #[])∧∃ d':List (VT×Value),(d'.map (·.1)).Perm (d.map (·.1))∧(∀ (i j:Nat) x y,i<j→d'[i]? =some x→d'[j]? =some y→0≤jr y.1 x.1)∧R5 w' g d'∧(∀ x∈d',bR B w' N x.2 x.1.list)∧d'.length=d.length∧Below B w w'
theorem R6 {B:Nat} {w:World} {N:Nat}:∀ (d:List (VT×Value)),(∀ x∈d,bR B w N x.2 x.1.list)→∃ es:List (Elt B w N),es.map (·.1)=d
 |[],_=>⟨[],rfl⟩
 |x::d,h=>by
  obtain ⟨es,hes⟩:=R6 d fun y hy=>h y (List.mem_cons_of_mem _ hy)
  exact ⟨⟨x,h x List.mem_cons_self⟩::es,by simp [hes]⟩
theorem Yu {B:Nat} {w:World} {N:Nat} (g cap:Nat) (d:List (VT×Value)) (hd:∀ x∈d,bR B w N x.2 x.1.list) (h0:0<d.length) (hB:B≤g) (hg:g<w.heap.size) (hrow:R5 w g d) (hfz:∀ j,j<d.length*5→w.frozen? ⟨g,j,none⟩=false) (hlen:d.length<4611686018427387904):
 Calls Tryz.prog 158 #[.slice (some ⟨g,0,none⟩) d.length cap,M9] w (Sorted B w N g d):=by
 obtain ⟨es,hes⟩:=R6 d hd
 have hel:es.length=d.length:=by rw [←hes];simp
 letI:Inhabited (Elt B w N):=⟨es[0]'(by omega)⟩
 have hget:∀ i (hi:i<d.length),(es.toArray[i]!).1=d[i]:=by
  intro i hi
  have h1:es.toArray[i]! =es[i]'(by omega):=by
   rw [getElem!_pos es.toArray i (by simp;omega)];simp
  rw [h1]
  have:(es.map (·.1))[i]'(by simp;omega)=d[i]:=by congr 1
  simpa using this
 have hH:HoldsK (lF (B:=B) (w:=w) (N:=N)) 5 w g 0 es.toArray:=by
  intro j hj
  rw [size_flatK] at hj
  have hsz:es.toArray.size=d.length:=by simp [hel]
  rw [hsz] at hj
  have hi:j/5<d.length:=by omega
  refine ⟨?_,by rw [Nat.zero_add];exact hfz j hj⟩
  rw [get_flatK _ _ _ _ (by rw [hsz];exact hj)]
  have hx:=hrow (j/5) (d[j/5]) (List.getElem?_eq_getElem hi)
  have he:lF (es.toArray[j/5]!)=(d[j/5]).1.cells (d[j/5]).2:=by
   unfold lF
   rw [hget _ hi]
  rw [he,Nat.zero_add]
  obtain ⟨c0,c1,c2,c3,c4⟩:=hx
  have hm:j%5<5:=Nat.mod_lt _ (by decide)
  have hj5:j=j/5*5+j%5:=by omega
  have key:∀ q,j%5=q→w.cell? ⟨g,j,none⟩=w.cell? ⟨g,j/5*5+q,none⟩:=fun q hq=>by rw [←hq,←hj5]
  match hq:j%5,hm with
  |0,_=>rw [key 0 hq];exact c0
  |1,_=>rw [key 1 hq];exact c1
  |2,_=>rw [key 2 hq];exact c2
  |3,_=>rw [key 3 hq];exact c3
  |4,_=>rw [key 4 hq];exact c4
 have hsz:es.toArray.size=d.length:=by simp [hel]
 have hcon:=AnyQ.slices_SortFunc Tryz.abR 5 Tryz.isAgg25 Tryz.sizeOf25 (lF (B:=B) (w:=w) (N:=N)) (fun _=>rfl) aaP Qk aaO 159 #[] g 0 cap es.toArray w
  (enters_of Tryz.func159 (by kernel_rfl) rfl) (Ql g _ hB hg) hH hg (by rw [hsz];exact hlen)
 rw [hsz] at hcon
 refine Calls.mono hcon ?_
 rintro r w' ⟨hr,d',n,os,hp,hs,rfl⟩
 have hb:=EK (lF (B:=B) (w:=w) (N:=N)) 5 w B g 0 n d' os hB hg
 have hds:d'.size=d.length:=by rw [hp.1,hsz]
 have hH':=holdsK_sortWorldK_c (lF (B:=B) (w:=w) (N:=N)) 5 w g 0 es.toArray d' n os hH hg hp.1
 have Yv:∀ i (hi:i<d'.size),d'[i]! =d'[i]:=fun i hi=>getElem!_pos d' i hi
 refine ⟨hr,d'.toList.map (·.1),?_,?_,?_,?_,by simp [hds],hb⟩
 ·have h1:=hp.2.2
  rw [←hsz] at h1
  have e1:d'.extract 0 es.toArray.size=d':=by rw [←hp.1];simp
  have e2:es.toArray.extract 0 es.toArray.size=es.toArray:=by simp
  rw [e1,e2] at h1
  have h2:=(h1.map (fun x:Elt B w N=>x.1)).map (fun x:VT×Value=>x.1)
  simp only [] at h2
  rw [hes] at h2
  exact h2
 ·intro i j x y hij hx hy
  rw [List.getElem?_map] at hx hy
  obtain ⟨a,ha,rfl⟩:=Option.map_eq_some_iff.1 hx
  obtain ⟨b,hb',rfl⟩:=Option.map_eq_some_iff.1 hy
  rw [Array.getElem?_toList] at ha hb'
  have hj:=(Array.getElem?_eq_some_iff.1 hb').1
  have hi:=(Array.getElem?_eq_some_iff.1 ha).1
  have:=hs i j (Nat.zero_le _) hij (by rw [hds] at hj;exact hj)
  rw [Yv i hi,Yv j hj,(Array.getElem?_eq_some_iff.1 ha).2,(Array.getElem?_eq_some_iff.1 hb').2] at this
  have h3:decide (jr b.1.1 a.1.1<0)=false:=this
  simp only [decide_eq_false_iff_not] at h3
  omega
 ·intro i x hx
  rw [List.getElem?_map] at hx
  obtain ⟨a,ha,rfl⟩:=Option.map_eq_some_iff.1 hx
  rw [Array.getElem?_toList] at ha
  have hi:=(Array.getElem?_eq_some_iff.1 ha).1
  have hai:d'[i]! =a:=by rw [Yv i hi];exact (Array.getElem?_eq_some_iff.1 ha).2
  have hc:∀ c,c<5→(sortWorldK (lF (B:=B) (w:=w) (N:=N)) 5 w g 0 n d' os).cell? ⟨g,i*5+c,none⟩=some (lF a)[c]! :=fun c hc=>by
   have:=(HoldsK.cell hH' hi hc).1
   rw [hai,Nat.zero_add] at this
   exact this
  exact ⟨hc 0 (by omega),hc 1 (by omega),hc 2 (by omega),hc 3 (by omega),hc 4 (by omega)⟩
 ·intro x hx
  obtain ⟨a,_,rfl⟩:=List.mem_map.1 hx
  exact a.2.below hb
end Go.Proofs.YtmldhjoolebjoaaGreatDoor.Va
