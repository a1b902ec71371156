/-
  The texts TG of this claim, one behind the other.
-/
import Derived.Test.YtfjlnfogbfmpiaaGreatDoorZPSB3
import Derived.Deep.CutRange
import Derived.Deep.CutBlock
namespace Go.Proofs.YtfjlnfogbfmpiaaGreatDoor.Va
open Go Go.RowKit Nu
attribute [-go_sem] Go.Instr.storeAt Go.Instr.loadAt
set_option maxRecDepth 100000 in
set_option maxHeartbeats 8000000 in
theorem numbers_any (p q:PT) (s s':PS) (w:World):
 Calls Tryz.prog 27 #[p.agg s,q.agg s'] w fun r w'=>r= .returned (.bool (eqN p q))∧Below w.heap.size w w':=by
 obtain ⟨W1,hW1⟩:∃ W1,(w.alloc (.cells (p.cells s).toArray 36)).alloc (.cells (q.cells s').toArray 36)=W1:=⟨_,rfl⟩
 obtain ⟨hbx,hz1⟩:=TBox.new (x:=p.cells s) (y:=q.cells s') hW1
 have HBX:=Lib.hid hbx
 clear hbx
 obtain ⟨R,hR⟩:∃ R,eqN p q=R:=⟨_,rfl⟩
 obtain ⟨E1,hE1⟩:∃ E,eqN1 p q=E:=⟨_,rfl⟩
 obtain ⟨E2,hE2⟩:∃ E,eqN2 p q=E:=⟨_,rfl⟩
 obtain ⟨E3,hE3⟩:∃ E,eqN3 p q=E:=⟨_,rfl⟩
 obtain ⟨E4,hE4⟩:∃ E,eqN4 p q=E:=⟨_,rfl⟩
 obtain ⟨E5,hE5⟩:∃ E,eqN5 p q=E:=⟨_,rfl⟩
 obtain ⟨E6,hE6⟩:∃ E,eqN6 p q=E:=⟨_,rfl⟩
 have HR:Hid (R=(E1&&E2&&E3&&E4&&E5&&E6)):=by show R=_;rw [←hR,←hE1,←hE2,←hE3,←hE4,←hE5,←hE6];rfl
 have HE1:=Lib.hid hE1
 have HE2:=Lib.hid hE2
 have HE3:=Lib.hid hE3
 have HE4:=Lib.hid hE4
 have HE5:=Lib.hid hE5
 have HE6:=Lib.hid hE6
 rw [hR]
 clear hR hE1 hE2 hE3 hE4 hE5 hE6
 go_enter Tryz.func27,Tryz.ntmps27
 go_upto_region 1 with (fail)
 clear hW1
 go_cut [5] from 10 to 49 (fun t wx=>t= .bool E1∧W1=wx)
 case first=>
  as_aux_lemma=>
   have l0:=load_int (cell_of HBX.out.c1 0 (.int .i64 p.i0) rfl)
   have m0:=load_int (cell_of HBX.out.c2 0 (.int .i64 q.i0) rfl)
   have l1:=load_str (cell_of HBX.out.c1 1 (.string p.s1) rfl)
   have m1:=load_str (cell_of HBX.out.c2 1 (.string q.s1) rfl)
   have l2:=load_str (cell_of HBX.out.c1 2 (.string p.s2) rfl)
   have m2:=load_str (cell_of HBX.out.c2 2 (.string q.s2) rfl)
   have l3:=load_int (cell_of HBX.out.c1 3 (.int .i64 p.i3) rfl)
   have m3:=load_int (cell_of HBX.out.c2 3 (.int .i64 q.i3) rfl)
   have l4:=load_int (cell_of HBX.out.c1 4 (.int .i64 p.i4) rfl)
   have m4:=load_int (cell_of HBX.out.c2 4 (.int .i64 q.i4) rfl)
   have l5:=load_int (cell_of HBX.out.c1 5 (.int .i64 p.i5) rfl)
   have m5:=load_int (cell_of HBX.out.c2 5 (.int .i64 q.i5) rfl)
   obtain ⟨e0,h0⟩:∃ e,(p.i0==q.i0)=e:=⟨_,rfl⟩
   obtain ⟨e1,h1⟩:∃ e,(p.s1.toList==q.s1.toList)=e:=⟨_,rfl⟩
   obtain ⟨e2,h2⟩:∃ e,(p.s2.toList==q.s2.toList)=e:=⟨_,rfl⟩
   obtain ⟨e3,h3⟩:∃ e,(p.i3==q.i3)=e:=⟨_,rfl⟩
   obtain ⟨e4,h4⟩:∃ e,(p.i4==q.i4)=e:=⟨_,rfl⟩
   obtain ⟨e5,h5⟩:∃ e,(p.i5==q.i5)=e:=⟨_,rfl⟩
   have HX:Hid (E1=(e0&&e1&&e2&&e3&&e4&&e5)):=by show E1=_;rw [←HE1.out,←h0,←h1,←h2,←h3,←h4,←h5];rfl
   go_wp2_with (fail)
   all_goals
    go_meet
    exact ⟨by rw [HX.out];simp_all,rfl⟩
 case rest=>
  obtain ⟨rfl,rfl⟩:=hcut
  go_upto_region 2 with (fail)
  go_cut [6] from 50 to 89 (fun t wx=>t= .bool E2∧W1=wx)
  case first=>
   as_aux_lemma=>
    have l0:=load_int (cell_of HBX.out.c1 11 (.int .i64 p.i11) rfl)
    have m0:=load_int (cell_of HBX.out.c2 11 (.int .i64 q.i11) rfl)
    have l1:=load_int (cell_of HBX.out.c1 12 (.int .i64 p.i12) rfl)
    have m1:=load_int (cell_of HBX.out.c2 12 (.int .i64 q.i12) rfl)
    have l2:=load_int (cell_of HBX.out.c1 13 (.int .i64 p.i13) rfl)
    have m2:=load_int (cell_of HBX.out.c2 13 (.int .i64 q.i13) rfl)
    have l3:=load_int (cell_of HBX.out.c1 14 (.int .i64 p.i14) rfl)
    have m3:=load_int (cell_of HBX.out.c2 14 (.int .i64 q.i14) rfl)
    have l4:=load_int (cell_of HBX.out.c1 15 (.int .i64 p.i15) rfl)
    have m4:=load_int (cell_of HBX.out.c2 15 (.int .i64 q.i15) rfl)
    have l5:=load_int (cell_of HBX.out.c1 16 (.int .i64 p.i16) rfl)
    have m5:=load_int (cell_of HBX.out.c2 16 (.int .i64 q.i16) rfl)
    obtain ⟨e0,h0⟩:∃ e,(p.i11==q.i11)=e:=⟨_,rfl⟩
    obtain ⟨e1,h1⟩:∃ e,(p.i12==q.i12)=e:=⟨_,rfl⟩
    obtain ⟨e2,h2⟩:∃ e,(p.i13==q.i13)=e:=⟨_,rfl⟩
    obtain ⟨e3,h3⟩:∃ e,(p.i14==q.i14)=e:=⟨_,rfl⟩
    obtain ⟨e4,h4⟩:∃ e,(p.i15==q.i15)=e:=⟨_,rfl⟩
    obtain ⟨e5,h5⟩:∃ e,(p.i16==q.i16)=e:=⟨_,rfl⟩
    have HX:Hid (E2=(e0&&e1&&e2&&e3&&e4&&e5)):=by show E2=_;rw [←HE2.out,←h0,←h1,←h2,←h3,←h4,←h5];rfl
    go_wp2_with (fail)
    all_goals
     go_meet
     exact ⟨by rw [HX.out];simp_all,rfl⟩
  case rest=>
   obtain ⟨rfl,rfl⟩:=hcut
   go_upto_region 3 with (fail)
   go_cut [7] from 90 to 143 (fun t wx=>t= .bool E3∧W1=wx)
   case first=>
    as_aux_lemma=>
     have l0:=load_str (cell_of HBX.out.c1 17 (.string p.s17) rfl)
     have m0:=load_str (cell_of HBX.out.c2 17 (.string q.s17) rfl)
     have l1:=load_int (cell_of HBX.out.c1 18 (.int .i64 p.i18) rfl)
     have m1:=load_int (cell_of HBX.out.c2 18 (.int .i64 q.i18) rfl)
     have l2:=load_bool (cell_of HBX.out.c1 19 (.bool p.b19) rfl)
     have m2:=load_bool (cell_of HBX.out.c2 19 (.bool q.b19) rfl)
     have l3:=load_int (cell_of HBX.out.c1 20 (.int .i64 p.i20) rfl)
     have m3:=load_int (cell_of HBX.out.c2 20 (.int .i64 q.i20) rfl)
     have l4:=load_int (cell_of HBX.out.c1 21 (.int .i64 p.i21) rfl)
     have m4:=load_int (cell_of HBX.out.c2 21 (.int .i64 q.i21) rfl)
     have l5:=load_bool (cell_of HBX.out.c1 81 (.bool p.b81) rfl)
     have m5:=load_bool (cell_of HBX.out.c2 81 (.bool q.b81) rfl)
     have l6:=load_int (cell_of HBX.out.c1 82 (.int .i64 p.i82) rfl)
     have m6:=load_int (cell_of HBX.out.c2 82 (.int .i64 q.i82) rfl)
     have l7:=load_int (cell_of HBX.out.c1 83 (.int .i64 p.i83) rfl)
     have m7:=load_int (cell_of HBX.out.c2 83 (.int .i64 q.i83) rfl)
     obtain ⟨e0,h0⟩:∃ e,(p.s17.toList==q.s17.toList)=e:=⟨_,rfl⟩
     obtain ⟨e1,h1⟩:∃ e,(p.i18==q.i18)=e:=⟨_,rfl⟩
     obtain ⟨e2,h2⟩:∃ e,(p.b19==q.b19)=e:=⟨_,rfl⟩
     obtain ⟨e3,h3⟩:∃ e,(p.i20==q.i20)=e:=⟨_,rfl⟩
     obtain ⟨e4,h4⟩:∃ e,(p.i21==q.i21)=e:=⟨_,rfl⟩
     obtain ⟨e5,h5⟩:∃ e,(p.b81==q.b81)=e:=⟨_,rfl⟩
     obtain ⟨e6,h6⟩:∃ e,(p.i82==q.i82)=e:=⟨_,rfl⟩
     obtain ⟨e7,h7⟩:∃ e,(p.i83==q.i83)=e:=⟨_,rfl⟩
     have HX:Hid (E3=(e0&&e1&&e2&&e3&&e4&&e5&&e6&&e7)):=by show E3=_;rw [←HE3.out,←h0,←h1,←h2,←h3,←h4,←h5,←h6,←h7];rfl
     go_wp2_with (fail)
     all_goals
      go_meet
      exact ⟨by rw [HX.out];simp_all,rfl⟩
   case rest=>
    obtain ⟨rfl,rfl⟩:=hcut
    go_upto_region 4 with (fail)
    go_cut [8] from 144 to 176 (fun t wx=>t= .bool E4∧W1=wx)
    case first=>
     as_aux_lemma=>
      have l0:=load_int (cell_of HBX.out.c1 84 (.int .i64 p.i84) rfl)
      have m0:=load_int (cell_of HBX.out.c2 84 (.int .i64 q.i84) rfl)
      have l1:=load_int (cell_of HBX.out.c1 85 (.int .i64 p.i85) rfl)
      have m1:=load_int (cell_of HBX.out.c2 85 (.int .i64 q.i85) rfl)
      have l2:=load_int (cell_of HBX.out.c1 86 (.int .i64 p.i86) rfl)
      have m2:=load_int (cell_of HBX.out.c2 86 (.int .i64 q.i86) rfl)
      have l3:=load_bool (cell_of HBX.out.c1 87 (.bool p.b87) rfl)
      have m3:=load_bool (cell_of HBX.out.c2 87 (.bool q.b87) rfl)
      have l4:=load_bool (cell_of HBX.out.c1 88 (.bool p.b88) rfl)
      have m4:=load_bool (cell_of HBX.out.c2 88 (.bool q.b88) rfl)
      obtain ⟨e0,h0⟩:∃ e,(p.i84==q.i84)=e:=⟨_,rfl⟩
      obtain ⟨e1,h1⟩:∃ e,(p.i85==q.i85)=e:=⟨_,rfl⟩
      obtain ⟨e2,h2⟩:∃ e,(p.i86==q.i86)=e:=⟨_,rfl⟩
      obtain ⟨e3,h3⟩:∃ e,(p.b87==q.b87)=e:=⟨_,rfl⟩
      obtain ⟨e4,h4⟩:∃ e,(p.b88==q.b88)=e:=⟨_,rfl⟩
      have HX:Hid (E4=(e0&&e1&&e2&&e3&&e4)):=by show E4=_;rw [←HE4.out,←h0,←h1,←h2,←h3,←h4];rfl
      go_wp2_with (fail)
      all_goals
       go_meet
       exact ⟨by rw [HX.out];simp_all,rfl⟩
    case rest=>
     obtain ⟨rfl,rfl⟩:=hcut
     go_upto_region 5 with (fail)
     go_cut [9] from 177 to 244 (fun t wx=>t= .bool E5∧W1=wx)
     case first=>
      as_aux_lemma=>
       have l0:=load_int (cell_of HBX.out.c1 89 (.int .i64 p.i89) rfl)
       have m0:=load_int (cell_of HBX.out.c2 89 (.int .i64 q.i89) rfl)
       have l1:=load_bool (cell_of HBX.out.c1 90 (.bool p.b90) rfl)
       have m1:=load_bool (cell_of HBX.out.c2 90 (.bool q.b90) rfl)
       have l2:=load_str (cell_of HBX.out.c1 91 (.string p.s91) rfl)
       have m2:=load_str (cell_of HBX.out.c2 91 (.string q.s91) rfl)
       have l3:=load_int (cell_of HBX.out.c1 92 (.int .i64 p.i92) rfl)
       have m3:=load_int (cell_of HBX.out.c2 92 (.int .i64 q.i92) rfl)
       have l4:=load_bool (cell_of HBX.out.c1 93 (.bool p.b93) rfl)
       have m4:=load_bool (cell_of HBX.out.c2 93 (.bool q.b93) rfl)
       have l5:=load_bool (cell_of HBX.out.c1 94 (.bool p.b94) rfl)
       have m5:=load_bool (cell_of HBX.out.c2 94 (.bool q.b94) rfl)
       have l6:=load_bool (cell_of HBX.out.c1 95 (.bool p.b95) rfl)
       have m6:=load_bool (cell_of HBX.out.c2 95 (.bool q.b95) rfl)
       have l7:=load_bool (cell_of HBX.out.c1 96 (.bool p.b96) rfl)
       have m7:=load_bool (cell_of HBX.out.c2 96 (.bool q.b96) rfl)
       have l8:=load_bool (cell_of HBX.out.c1 97 (.bool p.b97) rfl)
       have m8:=load_bool (cell_of HBX.out.c2 97 (.bool q.b97) rfl)
       have l9:=load_bool (cell_of HBX.out.c1 98 (.bool p.b98) rfl)
       have m9:=load_bool (cell_of HBX.out.c2 98 (.bool q.b98) rfl)
       obtain ⟨e0,h0⟩:∃ e,(p.i89==q.i89)=e:=⟨_,rfl⟩
       obtain ⟨e1,h1⟩:∃ e,(p.b90==q.b90)=e:=⟨_,rfl⟩
       obtain ⟨e2,h2⟩:∃ e,(p.s91.toList==q.s91.toList)=e:=⟨_,rfl⟩
       obtain ⟨e3,h3⟩:∃ e,(p.i92==q.i92)=e:=⟨_,rfl⟩
       obtain ⟨e4,h4⟩:∃ e,(p.b93==q.b93)=e:=⟨_,rfl⟩
       obtain ⟨e5,h5⟩:∃ e,(p.b94==q.b94)=e:=⟨_,rfl⟩
       obtain ⟨e6,h6⟩:∃ e,(p.b95==q.b95)=e:=⟨_,rfl⟩
       obtain ⟨e7,h7⟩:∃ e,(p.b96==q.b96)=e:=⟨_,rfl⟩
       obtain ⟨e8,h8⟩:∃ e,(p.b97==q.b97)=e:=⟨_,rfl⟩
       obtain ⟨e9,h9⟩:∃ e,(p.b98==q.b98)=e:=⟨_,rfl⟩
       have HX:Hid (E5=(e0&&e1&&e2&&e3&&e4&&e5&&e6&&e7&&e8&&e9)):=by show E5=_;rw [←HE5.out,←h0,←h1,←h2,←h3,←h4,←h5,←h6,←h7,←h8,←h9];rfl
       go_wp2_with (fail)
       all_goals
        go_meet
        exact ⟨by rw [HX.out];simp_all,rfl⟩
     case rest=>
      obtain ⟨rfl,rfl⟩:=hcut
      have l0:=load_int (cell_of HBX.out.c1 118 (.int .i64 p.i118) rfl)
      have m0:=load_int (cell_of HBX.out.c2 118 (.int .i64 q.i118) rfl)
      have l1:=load_int (cell_of HBX.out.c1 119 (.int .i64 p.i119) rfl)
      have m1:=load_int (cell_of HBX.out.c2 119 (.int .i64 q.i119) rfl)
      have l2:=load_bool (cell_of HBX.out.c1 120 (.bool p.b120) rfl)
      have m2:=load_bool (cell_of HBX.out.c2 120 (.bool q.b120) rfl)
      obtain ⟨e0,h0⟩:∃ e,(p.i118==q.i118)=e:=⟨_,rfl⟩
      obtain ⟨e1,h1⟩:∃ e,(p.i119==q.i119)=e:=⟨_,rfl⟩
      obtain ⟨e2,h2⟩:∃ e,(p.b120==q.b120)=e:=⟨_,rfl⟩
      have HX:Hid (E6=(e0&&e1&&e2)):=by show E6=_;rw [←HE6.out,←h0,←h1,←h2];rfl
      have HB:=Lib.hid HBX.out.below
      go_wp2
      all_goals
       go_ret
       refine ⟨ret_bool ?_,HB.out⟩
       rw [HR.out,HX.out,Bool.eq_iff_iff]
       simp_all
end Go.Proofs.YtfjlnfogbfmpiaaGreatDoor.Va
