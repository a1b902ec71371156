/-
  Proved: the law longshorelaw07.ShapeChecks returns true for any record; the tables of the library are as the program's text lays them (the card's tie). Conditions: none beside the row's own (laid).
-/
import Derived.Test.YtfoiaiblggapeaaGreatDoorCards
import Derived.Test.YtfoiaiblggapeaaGreatDoorTie
import Derived.Test.YtfoiaiblggapeaaGreatDoorZSCB9
import Derived.ProofKit
import Derived.OpenShut
import Derived.LaidLaws
import Derived.Lay
import Derived.MakeChecks
import Derived.SevenTiedAt
import Derived.JoinedOf
import Derived.ChangeVars
import Derived.Lib.LaidU8T
namespace Go.Proofs.YtfoiaiblggapeaaGreatDoor.shapeChecks
open Go Go.ChangeShapes Go.WideShapes Go.ChangeAt Go.RowKit Go.Proofs.Nu Go.Proofs.YtfoiaiblggapeaaGreatDoor.Va Go.Proofs.YtfoiaiblggapeaaGreatDoor.Uc
section
attribute [-go_sem] Go.Instr.loadAt Go.Instr.storeAt
set_option maxRecDepth 100000 in
set_option maxHeartbeats 8000000 in
theorem walk_raw {N:Nat} (k:Int) (l:List VT) (lv:Value) (w:World) (hl:LAt w.heap.size w N lv l) (hE:Env w)
 {tt:TypeId} (hsp:w.heap[0]? =some (.cells (Lib.asciiSpaceTab.map fun z=>Value.int .u8 z).toArray tt (0,0))):
 Calls Tryz.prog 4 #[.agg #[.int .i64 k,lv]] w fun r w'=>r= .returned (.bool true)∧Below w.heap.size w w':=by
 obtain ⟨p,c,rfl⟩:=hl.slice
 obtain ⟨W1,hW1⟩:∃ W1,w.alloc (.cells #[.int .i64 k,.slice p l.length c] 33)=W1:=⟨_,rfl⟩
 obtain ⟨x1,hz1,hb1⟩:=one_box (cs:=[.int .i64 k,.slice p l.length c]) hW1
 have HB1:=Lib.hid hb1
 have HLD:Hid (∀ v,Below W1.heap.size W1 v→(Instr.loadAt 3 (.pointer (some ⟨w.heap.size,0,none⟩))).run Tryz.prog v= .ok (.int .i64 k) v∧(Instr.loadAt 31 (.pointer (some ⟨w.heap.size,1,none⟩))).run Tryz.prog v= .ok (.slice p l.length c) v∧(Instr.loadAt 33 (.pointer (some ⟨w.heap.size,0,none⟩))).run Tryz.prog v= .ok (.agg #[.int .i64 k,.slice p l.length c]) v):=fun v h=>
  ⟨pload_int ((x1.below h (by omega)).cell (j:=0) rfl),wload_slice ((x1.below h (by omega)).cell (j:=1) rfl),pload_rec (x1.below h (by omega))⟩
 have HO:Hid (∀ v,Below w.heap.size w v→LAt w.heap.size v N (.slice p l.length c) l∧Env v):=fun v h=>⟨hl.below h,hE.below h⟩
 have HG:=Lib.hid (greatAll_any (w:=W1) (hl.below hb1) (by omega))
 have hsp1:W1.heap[0]? =some (.cells (Lib.asciiSpaceTab.map fun z=>Value.int .u8 z).toArray tt (0,0)):=(hb1.block _ (Array.getElem?_eq_some_iff.1 hsp).1).trans hsp
 have HSP:Hid (∀ v,Below W1.heap.size W1 v→Calls Tryz.prog 7 #[] v fun e w'=>e= .returned (.bool true)∧Below v.heap.size v w'):=fun v h=>live_any ((h.block _ (Array.getElem?_eq_some_iff.1 hsp1).1).trans hsp1)
 obtain ⟨_,l2,_⟩:=HLD.out W1 (Below.refl _ _)
 obtain ⟨G,hG⟩:∃ G,decide (100000<wts l 0)=G:=⟨_,rfl⟩
 have HGG:=Lib.hid hG
 rw [hG] at HG
 clear hl hE hsp hsp1 hb1 x1 hG
 go_enter Tryz.func4,Tryz.ntmps4
 go_wp2_with (fail)
 clear hW1 l2
 refine HG.out.mono ?_
 rintro r w2 ⟨rfl,hb2⟩
 have HB2:=Lib.hid hb2
 have z2:=hb2.size
 clear hb2 HG
 cases G with
 |true=>
  go_wp2
  go_ret
  exact ⟨rfl,HB1.out.trans (HB2.out.mono (by omega))⟩
 |false=>
 have hsm:¬100000<wts l 0:=of_decide_eq_false HGG.out
 have HSM:Hid (Sms l∧(nodesL l+13)*2^3≤800000000):=⟨⟨0,by omega⟩,by have:=small_nodes hsm;omega⟩
 clear hsm
 go_wp2_with (fail)
 refine (HSP.out w2 HB2.out).mono ?_
 rintro r V ⟨rfl,hbv⟩
 have HBV:=Lib.hid (HB2.out.trans (hbv.mono z2))
 have zV:=HBV.out.size
 clear hbv HSP
 have hD:Below V.heap.size V V.drew:=(Below.refl _ _).drew
 have hDA:Below V.heap.size V ((V.alloc (.cells #[.int .i64 0,.slice none 0 0] 33)).drew):=((Below.refl _ _).alloc (Nat.le_refl _) _).drew
 obtain ⟨xA0,hzA0,_⟩:=one_box (w:=V) (cs:=[.int .i64 0,.slice none 0 0]) (T:=33) rfl
 have hzA:((V.alloc (.cells #[.int .i64 0,.slice none 0 0] 33)).drew).heap.size=V.heap.size+1:=hzA0
 have xA:Box ((V.alloc (.cells #[.int .i64 0,.slice none 0 0] 33)).drew) V.heap.size [.int .i64 0,.slice none 0 0]:=xA0.heap rfl
 clear xA0 hzA0
 have HLX:Hid (∀ v,Below V.heap.size V v→(Instr.loadAt 3 (.pointer (some ⟨w.heap.size,0,none⟩))).run Tryz.prog v= .ok (.int .i64 k) v∧(Instr.loadAt 31 (.pointer (some ⟨w.heap.size,1,none⟩))).run Tryz.prog v= .ok (.slice p l.length c) v):=fun v h=>let ⟨a,b,_⟩:=HLD.out v (HBV.out.trans (h.mono zV));⟨a,b⟩
 have HLN:Hid (∀ v,Below V.heap.size V v→Calls Tryz.prog 15 #[.slice p l.length c] v fun r w'=>∃ v',r= .returned v'∧LentAt w' N v.heap.size w'.heap.size v' l∧Below v.heap.size v w'):=fun v h=>by
  have hb:Below w.heap.size w v:=HB1.out.trans ((HBV.out.trans (h.mono zV)).mono (by omega))
  exact lents N w.heap.size _ l v (HO.out v hb).1 HSM.out.1 hb.size
 go_wp2
 go_region_held3 (fun v=>(Instr.loadAt 3 (.pointer (some ⟨w.heap.size,0,none⟩))).run Tryz.prog v= .ok (.int .i64 k) v∧(Instr.loadAt 31 (.pointer (some ⟨w.heap.size,1,none⟩))).run Tryz.prog v= .ok (.slice p l.length c) v)
  (first
    |with_reducible exact hv8
    |with_reducible exact hv7
    |with_reducible exact hv6
    |with_reducible exact HLX.out _ hDA
    |with_reducible exact HLX.out _ hD)
  ((go_at_call 15
    go_must (
    first
     |(refine (HLN.out V.drew hD).mono ?_
       go_must (
       rintro r w6 ⟨v6,rfl,hl6,hb6'⟩
       obtain ⟨b6,e6⟩:=hl6.form
       obtain ⟨q6,c6,rfl⟩:∃ q c,v6= .slice q l.length c:=⟨_,_,e6⟩
       have hb6:Below V.heap.size V w6:=hD.trans hb6'
       have hz6:=hb6.size
       obtain ⟨x7,hz7,hb7⟩:=one_box (w:=w6) (cs:=[.int .i64 0,.slice none 0 0]) (T:=33) rfl
       have h7:Below V.heap.size V (w6.alloc (.cells #[.int .i64 0,.slice none 0 0] 33)):=hb6.trans (hb7.mono hz6)
       have hv6:=HLX.out _ hb6
       have hv7:=HLX.out _ h7
       obtain ⟨X8,hst8,_,x8,hb8,hz8,hsm8⟩:=rec_store x7 rfl k q6 l.length c6
       have h8:Below V.heap.size V X8:=h7.trans (hb8.mono hz6)
       have hv8:=HLX.out _ h8
       obtain ⟨lb,hlb⟩:∃ lb,w6.heap.size=lb:=⟨_,rfl⟩
       obtain ⟨lo,hlo⟩:∃ lo,V.heap.size=lo:=⟨_,rfl⟩
       obtain ⟨hi,hhi⟩:∃ hi,w6.heap.size=hi:=⟨_,rfl⟩
       have HL8:Hid (LentR X8 N lo hi lb k (.slice q6 l.length c6) l):=by
        rw [←hlb,←hlo,←hhi]
        exact ⟨(hl6.below (Nat.le_refl _) hb7).apart (x:=w6.heap.size) (y:=w6.heap.size+1) ⟨hb8.os,hb8.tape,hb8.output,hb8.size,fun j hj hjo=>hsm8 j (by omega)⟩ (by omega) (.inl (Nat.le_refl _)),x8,by omega,by omega,.inr (Nat.le_refl _)⟩
       have HLO:Hid (V.heap.size≤lo):=Nat.le_of_eq hlo
       have H8:=Lib.hid h8
       rw [hlb] at hst8
       clear h8 hb8 h7 hz7 hb7 x7 x8 hz8 hsm8 hb6 hb6' hl6 hlo hhi e6))
     |(refine (HLN.out ((V.alloc (.cells #[.int .i64 0,.slice none 0 0] 33)).drew) hDA).mono ?_
       go_must (
       rintro r w6 ⟨v6,rfl,hl6,hb6'⟩
       obtain ⟨b6,e6⟩:=hl6.form
       obtain ⟨q6,c6,rfl⟩:∃ q c,v6= .slice q l.length c:=⟨_,_,e6⟩
       have hb6:Below V.heap.size V w6:=hDA.trans (hb6'.mono hDA.size)
       have hz6:V.heap.size+1≤w6.heap.size:=by have:=hb6'.size;omega
       have x7:=xA.below hb6' (by omega)
       have hv6:=HLX.out _ hb6
       obtain ⟨X8,hst8,_,x8,hb8,hz8,hsm8⟩:=rec_store x7 rfl k q6 l.length c6
       have h8:Below V.heap.size V X8:=hb6.trans hb8
       have hv8:=HLX.out _ h8
       obtain ⟨lb,hlb⟩:∃ lb,V.heap.size=lb:=⟨_,rfl⟩
       obtain ⟨lo,hlo⟩:∃ lo,((V.alloc (.cells #[.int .i64 0,.slice none 0 0] 33)).drew).heap.size=lo:=⟨_,rfl⟩
       obtain ⟨hi,hhi⟩:∃ hi,w6.heap.size=hi:=⟨_,rfl⟩
       have HL8:Hid (LentR X8 N lo hi lb k (.slice q6 l.length c6) l):=by
        rw [←hlb,←hlo,←hhi]
        exact ⟨hl6.apart (x:=V.heap.size) (y:=V.heap.size+1) ⟨hb8.os,hb8.tape,hb8.output,hb8.size,fun j hj hjo=>hsm8 j (by omega)⟩ (by omega) (.inr (by omega)),x8,by omega,by omega,.inl (by omega)⟩
       have HLO:Hid (V.heap.size≤lo):=by show _≤_;omega
       have H8:=Lib.hid h8
       rw [hlb] at hst8
       clear h8 hb8 x7 x8 hz8 hsm8 hb6 hb6' hl6 hlo hhi e6)))))
 all_goals
  have hlent:=HL8.out
  have hzs:=H8.out.size
  have hB1X:Below W1.heap.size W1 X8:=HBV.out.trans (H8.out.mono zV)
  have HBX:=Lib.hid hB1X
  have HBW:=Lib.hid (HB1.out.trans (hB1X.mono (by omega)))
  obtain ⟨C,hC⟩:∃ C,recC (readF 3) (packF 3) k l=C:=⟨_,rfl⟩
  obtain ⟨e1,e2⟩:=HO.out X8 HBW.out
  have S1:=Lib.hid (recCheck_any (B:=X8.heap.size) k l (.slice q6 l.length c6) X8 e2 (hlent.list.lat hlent.hi_le) (Nat.le_refl _) HSM.out.2)
  rw [hC] at S1
  have m1:=pload_rec hlent.box
  clear hlent hB1X e1 e2 hv8
  go_wp2_with (fail)
  clear m1
  refine S1.out.mono ?_
  rintro r w9 ⟨rfl,hb9⟩
  have HB9:=Lib.hid hb9
  have z9:=hb9.size
  have hbw9:Below w.heap.size w w9:=HBW.out.trans (hb9.mono (by have:=HBW.out.size;omega))
  obtain ⟨e1,e2⟩:=HO.out w9 hbw9
  have S2:=Lib.hid (rrecCheck_any (P:=fun b=>b<w.heap.size) k l (.slice p l.length c) w9 (fun b hb=>Nat.lt_of_lt_of_le hb hbw9.size) e2 (e1.latP hbw9.size) HSM.out.2)
  rw [hC] at S2
  obtain ⟨_,_,m3⟩:=HLD.out w9 (HBX.out.trans (hb9.mono (by omega)))
  clear hb9 S1 hC e1 e2 hbw9
  go_wp2_with (fail)
  clear m3
  refine S2.out.mono ?_
  rintro r w10 ⟨rfl,hb10⟩
  have HB10:=Lib.hid (HB9.out.trans (hb10.mono z9))
  have z10:=HB10.out.size
  have hl10:=HL8.out.below HB10.out
  have hbw10:Below w.heap.size w w10:=HBW.out.trans (HB10.out.mono (by have:=HBW.out.size;omega))
  have S3:=Lib.hid (kepts N w.heap.size lo hi (.slice q6 l.length c6) (.slice p l.length c) l w10 hl10.list (HO.out w10 hbw10).1 (by have:=HLO.out;omega) hl10.hi_le)
  have HBW10:=Lib.hid hbw10
  have m5:=wload_slice (hl10.box.cell (j:=1) rfl)
  obtain ⟨_,m6,_⟩:=HLD.out w10 (HBX.out.trans (HB10.out.mono (by omega)))
  clear hb10 S2 hl10 hbw10
  go_wp2_with (fail)
  clear m5 m6
  refine S3.out.mono ?_
  rintro r w11 ⟨rfl,ha11⟩
  have HBW11:Hid (Below w.heap.size w w11):=HBW10.out.trans (ha11.below (by have:=HLO.out;omega) HBW10.out.size)
  clear ha11 S3
  go_wp2
  go_ret
  exact ⟨by simp,HBW11.out⟩
end
theorem readable:∀ t∈[33],Tryz.prog.readableRec t=true∧t<Tryz.prog.types.size:=by
 intro t ht
 simp only [List.mem_cons,List.not_mem_nil,or_false] at ht
 subst ht
 exact ⟨by kernel_rfl,of_decide_eq_true (by kernel_rfl)⟩
theorem own:ownKnob Tryz.prog.godebug=none:=by kernel_rfl
theorem gSpace:Tryz.prog.globalNamed "strings.asciiSpace" =some 0:=by kernel_rfl
theorem spaceData:(Rows.laid_strings_asciiSpace:DataW Unit)=Lib.tabData .u8 Lib.asciiSpaceTab:=by kernel_rfl
theorem listed:("strings.asciiSpace",Lib.tabData .u8 Lib.asciiSpaceTab)∈Rows.shapeChecksRow.laid:=by
 rw [←spaceData]
 exact List.Mem.tail _ (List.Mem.tail _ (List.Mem.head _))
theorem dataF:(Rows.laid_unicode_utf8_first:DataW Unit)=Lib.firstData:=by kernel_rfl
theorem dataA:(Rows.laid_unicode_utf8_acceptRanges:DataW Unit)=Lib.acceptData:=by kernel_rfl
theorem listF:("unicode/utf8.first",Lib.firstData)∈Rows.shapeChecksRow.laid:=by
 rw [←dataF]
 exact .tail _ (.tail _ (.tail _ (.head _)))
theorem listA:("unicode/utf8.acceptRanges",Lib.acceptData)∈Rows.shapeChecksRow.laid:=by
 rw [←dataA]
 exact .head _
theorem tabs {W:World} (hL:laidMet Tryz.prog Rows.shapeChecksRow.laid W):Tabs W:=
 utf8Tabs_of_readsT (ρ:=Tryz.dec197_ren) {Tryz.dec197 with} ⟨by kernel_rfl,by kernel_rfl,by kernel_rfl,by kernel_rfl,by kernel_rfl,by kernel_rfl,by kernel_rfl⟩ (Lib.laidMet.reads hL listF) (Lib.laidMet.reads hL listA)
set_option maxRecDepth 100000 in
set_option maxHeartbeats 1000000 in
theorem lifted (os:Os) (started:os.Started) (H:Type) (enc:TypeId×Value→H):
 ReturnsInHanded {} Tryz.checked os 4 .any (fun w args=>(Rows.shapeChecksSpec.pre enc Tryz.prog Tryz.f4 Rows.shapeChecksRow.domain false w args∧laidMetH Tryz.prog Rows.shapeChecksRow.laid w)∧sizedMet enc Tryz.prog Tryz.f4 (OpenSpec.ofChange Rows.shapeChecksSpec) false w args)
  (Rows.shapeChecksSpec.post enc Tryz.prog Tryz.f4 false true false false):=by
 refine returnsInHanded_of_change_and (C:=Tryz.checked) (X:=fun w _=>laidMetH Tryz.prog Rows.shapeChecksRow.laid w) (fun _ _ _ hh h=>h.of_heap hh) own started (by kernel_rfl) Tryz.func4
  (ChangeSpec.witness_shaped (enc:=enc) (C:=Tryz.checked) (os:=os) (X:=fun w _=>laidMetH Tryz.prog Rows.shapeChecksRow.laid w) false (World.laidAll Tryz.prog os Rows.shapeChecksRow.laid) #[.agg #[.int .i64 0,.slice none 0 0]] 8 (World.laidAll_os _ _ _)
    (World.shaped_of_ZipB (by kernel_rfl) (by kernel_rfl)) (by kernel_rfl) (by kernel_rfl) (by kernel_rfl)
    (by rw [MakeChecks.laidMetH_plain _ _ _ (by kernel_rfl)];exact laidMet_laidAll _ (by kernel_rfl) (by kernel_rfl))) ?_
 intro W base args ds gs before hval0 hW _ hsz hL _
 have hval:∀ (j:Nat) t v,Tryz.f4.params[j]? =some t→args[j]? =some v→Value.okWide Tryz.prog W .any base t v:=hval0
 have hW':=hW
 obtain ⟨p,q,hA0,hV,rfl,_,_⟩:=hW
 have hA:DataW.TrodAll enc Tryz.prog W 0 (fun _=>true) true Tryz.f4.params.toList args.toList ds p:=hA0
 have hlt:∀ x∈p,x.block<W.heap.size:=fun x hx=>hW'.lt x (List.mem_append_left _ hx)
 rw [Tryz.params4] at hA hval
 have hargs:=fun (W':World) (hb:Below W.heap.size W W')=>below_trodAll laidOut hb (ts:=[33]) readable hA hlt
 obtain ⟨v0,d0,rfl,rfl,h0⟩:=trodAll_one hA
 obtain ⟨rfl,rfl⟩:=trodVars_none hV
 obtain ⟨k,lv,ts,N,hv0,b0,b1,hl0⟩:=open_argR (hval 0 33 v0 rfl rfl) h0
 subst hv0
 clear hA0
 simp only [List.append_nil] at hW'
 rw [MakeChecks.laidMetH_plain _ _ _ (by kernel_rfl)] at hL
 obtain ⟨tt,hsp⟩:=CE.laid_block hL listed (by rw [Lib.asciiSpaceTab_length];decide) gSpace (t:=95) (e:=5) (n:=256) (by kernel_rfl) (by kernel_rfl) (by kernel_rfl) (by kernel_rfl) (by kernel_rfl)
 refine (walk_raw k ts lv W hl0 ⟨⟨tt,hsp⟩,tabs hL⟩ hsp).mono fun e W' ⟨he,hg⟩=>?_
 subst he
 exact ⟨_,rfl,_,_,_,[],_,[],hW',trodAll_mk1 (shut_bool Tryz.underlying4 _),hargs W' hg,rfl,hg.frame _,fun h=>by cases h⟩
theorem over:Rows.ShapeChecksSaid:=
 OpenClaim.holds_of_wide 4 Tryz.f4 rfl rfl rfl rfl rfl rfl rfl ⟨rfl,rfl,rfl,rfl,rfl⟩ rfl rfl rfl rfl rfl (by kernel_rfl) Tryz.func4 (by kernel_rfl)
  (of_decide_eq_true (by kernel_rfl)) (by unfold Func.isWrapper;first|(rw [if_pos (by decide+kernel)];kernel_rfl)|(rw [if_neg (by decide+kernel)];exact ⟨rfl,rfl⟩))
  (fun os started H enc _=>lifted os started H enc)
theorem card_holds:Rows.ShapeChecksCardSaid:=
 Claim7.holds_tied_plain_at .later [] [.data,.listed,.data,.pinned] true (true, "cf9370b1b1ff14ebcb28339e0c8f1527599e341fedacd0fa5168e4c923b7411b") false over (fun _ h=>by cases h) (by kernel_rfl) (fun _ h=>by cases h) shapeChecks_row_tie rfl ⟨rfl,rfl⟩ (by kernel_rfl) rfl
  (fun f fn hf hfn=>by
    obtain rfl:f=4:=Option.some.inj ((show Tryz.prog.funcNamed "longshore/longshorelaw07.ShapeChecks" =some 4 by kernel_rfl).symm.trans hf)|>.symm
    obtain rfl:fn=Tryz.f4:=(Option.some.inj (Tryz.func4.symm.trans hfn)).symm
    exact ⟨by kernel_rfl,fun j t ht=>by
     rw [Tryz.params4] at ht
     have hm:t∈[33]:=by simpa using Array.mem_of_getElem? ht
     have hall:([33].all fun u=> !Tryz.prog.wantsStandIn u)=true:=by kernel_rfl
     exact (show Tryz.prog.wantsStandIn t=false by simpa using List.all_eq_true.1 hall t hm)⟩)
  (by kernel_rfl)
#print axioms card_holds
end Go.Proofs.YtfoiaiblggapeaaGreatDoor.shapeChecks
