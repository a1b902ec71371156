/-
  Proved: the law longshorelaw08.TermsFaults returns true for any two faults; the tables of the library are as the program's text lays them (the card's tie). Conditions: none beside the row's own (laid).
-/
import Derived.Test.YtmldhjoolebjoaaGreatDoorCards
import Derived.Test.YtmldhjoolebjoaaGreatDoorTie
import Derived.Test.YtmldhjoolebjoaaGreatDoorZTFC0
import Derived.Test.YtmldhjoolebjoaaGreatDoorZTFA9
import Derived.Test.YtmldhjoolebjoaaGreatDoorZTFA8
import Derived.Test.YtmldhjoolebjoaaGreatDoorZTFC1
import Derived.Test.YtmldhjoolebjoaaGreatDoorZTFC2
import Derived.ProofKit
import Derived.OpenShut
import Derived.LaidLaws
import Derived.Lay
import Derived.MakeChecks
import Derived.SevenTiedAt
import Derived.JoinedOf
import Derived.ChangeVars
import Derived.Lib.LaidU8T
namespace Go.Proofs.YtmldhjoolebjoaaGreatDoor.termsFaults
open Go Go.ChangeShapes Go.WideShapes Go.ChangeAt Go.RowKit Nu Va Uc
theorem Sq {w:World} {t:TypeId} (hsp:w.heap[2]? =some (.cells (Lib.asciiSpaceTab.map fun z=>Value.int .u8 z).toArray t (0,0))):
 Calls Tryz.prog 4 #[] w fun e w'=>e= .returned (.bool true)∧Below w.heap.size w w':=
 CE.AZ Go.Proofs.YtmldhjoolebjoaaGreatDoor.Aw.VU (CE.J2 (by decide) hsp)
theorem vW {H:Type} {enc:TypeId×Value→H} {P:Program} (hl:laidOutB P=true) {W W':World} (hb:Below W.heap.size W W'):
 ∀ {ts:List TypeId} {vs:List Value} {ds:List (DataW H)} {ps:List MemPlace},(∀ t∈ts,P.readableRec t=true∧t<P.types.size)→DataW.TrodAll enc P W 0 (fun _=>true) true ts vs ds ps→(∀ x∈ps,x.block<W.heap.size)→
   DataW.TrodAll enc P W' 0 (fun b=>decide (b<W.heap.size)) true ts vs ds ps
 |[],[],[],_,_,h,_=>h
 |[],[],_::_,_,_,h,_=>h.elim
 |[],_::_,_,_,_,h,_=>h.elim
 |_::_,[],_,_,_,h,_=>h.elim
 |_::_,_::_,[],_,_,h,_=>h.elim
 |t::ts,v::vs,d::ds,ps,ht,⟨p,q,h1,h2,e⟩,hlt=>by
  subst e
  exact ⟨p,q,Below.trod hl (ht t (by simp)).1 (ht t (by simp)).2 h1 hb (fun x hx=>hlt x (List.mem_append_left _ hx)),vW hl hb (fun x hx=>ht x (List.mem_cons_of_mem _ hx)) h2 (fun x hx=>hlt x (List.mem_append_right _ hx)),rfl⟩
theorem readable:∀ t∈[27,27],Tryz.prog.readableRec t=true∧t<Tryz.prog.types.size:=by
 intro t ht
 simp only [List.mem_cons,List.not_mem_nil,or_false,or_self] at ht
 subst ht
 exact ⟨by kernel_rfl,of_decide_eq_true (by kernel_rfl)⟩
theorem aci:Tryz.prog.globalNamed "strings.asciiSpace" =some 2:=by kernel_rfl
theorem Sr:(Rows.laid_strings_asciiSpace:DataW Unit)=Lib.tabData .u8 Lib.asciiSpaceTab:=by kernel_rfl
theorem listed:("strings.asciiSpace",Lib.tabData .u8 Lib.asciiSpaceTab)∈Rows.termsFaultsRow.laid:=by
 rw [←Sr]
 exact .tail _ (.tail _ (.head _))
theorem ad7:(Rows.laid_unicode_utf8_first:DataW Unit)=Lib.firstData:=by kernel_rfl
theorem ad8:(Rows.laid_unicode_utf8_acceptRanges:DataW Unit)=Lib.acceptData:=by kernel_rfl
theorem ad9:("unicode/utf8.first",Lib.firstData)∈Rows.termsFaultsRow.laid:=by
 rw [←ad7]
 exact .tail _ (.tail _ (.tail _ (.head _)))
theorem aea:("unicode/utf8.acceptRanges",Lib.acceptData)∈Rows.termsFaultsRow.laid:=by
 rw [←ad8]
 exact .head _
theorem tabs {W:World} (hL:laidMet Tryz.prog Rows.termsFaultsRow.laid W):qL W:=
 utf8Tabs_of_readsT (ρ:=Tryz.Ch) {Tryz.VV with} ⟨by kernel_rfl,by kernel_rfl,by kernel_rfl,by kernel_rfl,by kernel_rfl,by kernel_rfl,by kernel_rfl⟩ (Lib.laidMet.reads hL ad9) (Lib.laidMet.reads hL aea)
set_option maxRecDepth 100000 in
set_option maxHeartbeats 1000000 in
theorem lifted (os:Os) (started:os.Started) (H:Type) (enc:TypeId×Value→H):
 ReturnsInHanded {} Tryz.checked os 3 .any (fun w args=>(Rows.termsFaultsSpec.pre enc Tryz.prog Tryz.f3 Rows.termsFaultsRow.domain false w args∧laidMetH Tryz.prog Rows.termsFaultsRow.laid w)∧sizedMet enc Tryz.prog Tryz.f3 (OpenSpec.ofChange Rows.termsFaultsSpec) false w args)
  (Rows.termsFaultsSpec.post enc Tryz.prog Tryz.f3 false true false false):=by
 refine returnsInHanded_of_change_and (C:=Tryz.checked) (X:=fun w _=>laidMetH Tryz.prog Rows.termsFaultsRow.laid w) (fun _ _ _ hh h=>h.of_heap hh) VW started (by kernel_rfl) Tryz.func3
  (ChangeSpec.witness_shaped (enc:=enc) (C:=Tryz.checked) (os:=os) (X:=fun w _=>laidMetH Tryz.prog Rows.termsFaultsRow.laid w) false (World.laidAll Tryz.prog os Rows.termsFaultsRow.laid) #[.agg #[.string ⟨#[]⟩,.string ⟨#[]⟩,.int .i64 0,.int .u64 0,.string ⟨#[]⟩,.slice none 0 0,.int .i64 0],.agg #[.string ⟨#[]⟩,.string ⟨#[]⟩,.int .i64 0,.int .u64 0,.string ⟨#[]⟩,.slice none 0 0,.int .i64 0]] 8 (World.laidAll_os _ _ _)
    (World.shaped_of_ZipB (by kernel_rfl) (by kernel_rfl)) (by kernel_rfl) (by kernel_rfl) (by kernel_rfl)
    (by rw [MakeChecks.laidMetH_plain _ _ _ (by kernel_rfl)];exact laidMet_laidAll _ (by kernel_rfl) (by kernel_rfl))) ?_
 intro W base args ds gs before hval0 hW _ hsz hL _
 have hval:∀ (j:Nat) t v,Tryz.f3.params[j]? =some t→args[j]? =some v→Value.okWide Tryz.prog W .any base t v:=hval0
 have hW':=hW
 obtain ⟨p,q,hA0,hV,rfl,_,_⟩:=hW
 have hA:DataW.TrodAll enc Tryz.prog W 0 (fun _=>true) true Tryz.f3.params.toList args.toList ds p:=hA0
 have hlt:∀ x∈p,x.block<W.heap.size:=fun x hx=>hW'.lt x (List.mem_append_left _ hx)
 rw [Tryz.params3] at hA hval
 have hargs:=fun (W':World) (hb:Below W.heap.size W W')=>vW xK hb (ts:=[27,27]) readable hA hlt
 obtain ⟨v0,v1,d0,d1,p0,p1,rfl,rfl,rfl,h0,h1⟩:=trodAll_two hA
 obtain ⟨rfl,rfl⟩:=trodVars_none hV
 obtain ⟨N0,c,x,i,il,e0,hc,hx,hf,hl0⟩:=F6 (hval 0 27 v0 rfl rfl) h0
 obtain ⟨N1,c',x',i',il',e1,hc',hx',hf',hl1⟩:=F6 (hval 1 27 v1 rfl rfl) h1
 subst e0 e1
 clear hA0
 simp only [List.append_nil] at hW'
 rw [MakeChecks.laidMetH_plain _ _ _ (by kernel_rfl)] at hL
 obtain ⟨tt,hsp⟩:=CE.NQ hL listed (by rw [Lib.asciiSpaceTab_length];decide) aci (t:=141) (e:=5) (n:=256) (by kernel_rfl) (by kernel_rfl) (by kernel_rfl) (by kernel_rfl) (by kernel_rfl)
 have hE:Env W:=⟨⟨tt,hsp⟩,tabs hL⟩
 have hAw:∀ v,Below W.heap.size W v→Calls Tryz.prog 4 #[] v fun r w'=>r= .returned (.bool true)∧Below v.heap.size v w':=fun v hb=>Sq (t:=tt) ((hb.block _ (Array.getElem?_eq_some_iff.1 hsp).1).trans hsp)
 refine (NR (N:=N0+N1) c x i il c' x' i' il' W hE hc hx hf (hl0.mono (Nat.le_add_right _ _)) hc' hx' hf' (hl1.mono (Nat.le_add_left _ _)) hAw).mono fun e W' ⟨he,hg⟩=>?_
 subst he
 exact ⟨_,rfl,_,_,_,[],_,[],hW',trodAll_mk1 (shut_bool Tryz.underlying4 _),hargs W' hg,rfl,hg.frame _,fun h=>by cases h⟩
theorem jR {a b:Bool} (ha:a=true) (hb:b=true):(a&&b)=true:=by rw [ha,hb];rfl
theorem closed:joinedFacts Tryz.prog 3 Tryz.f3 Rows.termsFaultsSpec Rows.termsFaultsRow=true:=by
 unfold joinedFacts
 exact jR (jR (jR (jR (jR (jR (jR (jR (jR (jR (jR (jR (jR (jR (jR (jR (jR (jR (jR (jR (jR (jR (jR (jR (jR (jR (jR (jR (jR (jR (jR ZJ xK) Ci) Ia) J3) J4) J5) J6) J7) Ib) VX) Su) NS) Sv) J8) Ic) NT) NU) NV) Sw) Cj) FB) J9) NW) NY) NZ) N7) Sy) (by kernel_rfl)) Ka) Kb) Ie
theorem over:Rows.TermsFaultsSaid:=
 OpenClaim.holds_of_wide 3 Tryz.f3 rfl rfl rfl rfl rfl rfl rfl ⟨rfl,rfl,rfl,rfl,rfl⟩ rfl rfl rfl rfl rfl Ck Tryz.func3 closed
  (of_decide_eq_true Sz) (by unfold Func.isWrapper;first|(rw [if_pos (by decide+kernel)];kernel_rfl)|(rw [if_neg (by decide+kernel)];exact ⟨rfl,rfl⟩))
  (fun os started H enc _=>lifted os started H enc)
theorem card_holds:Rows.TermsFaultsCardSaid:=
 Claim7.holds_tied_plain_at .later [] [.data,.listed,.data,.pinned] true (true, "70d9546f463b314e70160d76c616c4e5ce245ee82a7ccad705a55feacac3496d") false over (fun _ h=>by cases h) Ke (fun _ h=>by cases h) termsFaults_row_tie rfl ⟨rfl,rfl⟩ Kg rfl
  (fun f fn hf hfn=>by
    obtain rfl:f=3:=Option.some.inj (Ck.symm.trans hf)|>.symm
    obtain rfl:fn=Tryz.f3:=(Option.some.inj (Tryz.func3.symm.trans hfn)).symm
    exact ⟨N8,fun j t ht=>by
     rw [Tryz.params3] at ht
     have hm:t∈[27,27]:=by simpa using Array.mem_of_getElem? ht
     have hall:([27,27].all fun u=> !Tryz.prog.wantsStandIn u)=true:=by kernel_rfl
     exact (show Tryz.prog.wantsStandIn t=false by simpa using List.all_eq_true.1 hall t hm)⟩)
  SA
#print axioms card_holds
end Go.Proofs.YtmldhjoolebjoaaGreatDoor.termsFaults
