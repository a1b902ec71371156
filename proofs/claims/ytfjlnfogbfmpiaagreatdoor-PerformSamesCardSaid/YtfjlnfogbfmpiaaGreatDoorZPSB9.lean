/-
  The texts FactsA FactsB FactsC FactsD FactsE FactsF of this claim, one behind the other.
-/
import Derived.Test.YtfjlnfogbfmpiaaGreatDoorZPSA8
import Derived.Test.YtfjlnfogbfmpiaaGreatDoorRows
import Derived.Test.YtfjlnfogbfmpiaaGreatDoorChecked
import Derived.ProofKit
import Derived.JoinedOf
import Derived.SevenTiedAt
namespace Go.Proofs.YtfjlnfogbfmpiaaGreatDoor.performSames
open Go.ChangeShapes Go.WideShapes Go.ChangeAt Go.RowKit
theorem fact_wf:Rows.performSamesRow.wf (OpenSpec.ofChange Rows.performSamesSpec)=true:=by kernel_rfl
theorem fact_paramsR:Tryz.f3.params.all (Tryz.prog.readableRec ·)=true:=by kernel_rfl
theorem fact_namedT:namedTie Tryz.prog Rows.performSamesRow.named Rows.performSamesSpec.vars=true:=by kernel_rfl
theorem fact_stops1:(Rows.performSamesRow.stops==[])=true:=by kernel_rfl
theorem fact_stops2:(Tryz.prog.stops==[])=true:=by kernel_rfl
theorem fact_knobs1:(Rows.performSamesRow.knobs==[])=true:=by kernel_rfl
theorem fact_knobs2:(Tryz.prog.stopKnobs==[])=true:=by kernel_rfl
theorem fact_maps:(Rows.performSamesRow.maps==(Tryz.f3.params.toList++Rows.performSamesSpec.plain.varTypes Tryz.prog).any (Tryz.prog.mapsRec ·))=true:=by kernel_rfl
theorem fact_ifaces:(Rows.performSamesRow.ifaces==(Tryz.f3.params.toList++Rows.performSamesSpec.plain.varTypes Tryz.prog).any (Tryz.prog.ifacesRec ·))=true:=by kernel_rfl
theorem fact_mapsOut:(Rows.performSamesRow.mapsOut==Tryz.prog.mapsAmong Tryz.f3.resultTypes.toList)=true:=by kernel_rfl
theorem fact_loops:(Rows.performSamesRow.loops==(Tryz.f3.params.toList++Rows.performSamesSpec.plain.varTypes Tryz.prog).any (Tryz.prog.loopsFrom ·))=true:=by kernel_rfl
theorem fact_wideK:(Rows.performSamesRow.wideKeys==(Tryz.f3.params.toList++Rows.performSamesSpec.plain.varTypes Tryz.prog++Tryz.f3.resultTypes.toList).any (Tryz.prog.wideKeysFrom ·))=true:=by kernel_rfl
theorem fact_varsR:Rows.performSamesSpec.vars.all (Tryz.prog.varReadable ·)=true:=by kernel_rfl
theorem fact_resR:Tryz.f3.resultTypes.all (fun t=>Tryz.prog.readableRec t&&decide (t<Tryz.prog.types.size))=true:=by kernel_rfl
theorem fact_ifacesOut:(Rows.performSamesRow.ifacesOut==Tryz.f3.resultTypes.toList.any (Tryz.prog.ifacesRec ·))=true:=by kernel_rfl
theorem fact_loopsOut:(Rows.performSamesRow.loopsOut==Tryz.f3.resultTypes.toList.any (Tryz.prog.loopsFrom ·))=true:=by kernel_rfl
theorem fact_short:Rows.performSamesRow.shortTexts.isNone=true:=by kernel_rfl
theorem fact_lifts:(Rows.performSamesRow.lifted==Tryz.prog.liftsFinal)=true:=by kernel_rfl
theorem fact_make:(Tryz.prog.make==some Rows.performSamesRow.make)=true:=by kernel_rfl
theorem fact_kinds:(Rows.performSamesRow.kinds==(if Rows.performSamesRow.domain.isEmpty then [] else Tryz.f3.params.toList.map fun t=>match Tryz.prog.underlying t with|some (.int k)=>some k|_=>none))=true:=by kernel_rfl
theorem fact_pinned:(Rows.performSamesRow.pinned==Rows.performSamesRow.pinnedBy)=true:=by kernel_rfl
theorem fact_veiled:(Rows.performSamesRow.veiled==(Tryz.f3.params.toList++Rows.performSamesSpec.plain.varTypes Tryz.prog++Tryz.f3.resultTypes.toList).any (Tryz.prog.veiledRec ·))=true:=by kernel_rfl
theorem fact_veiledF:Rows.performSamesRow.veiledFits Tryz.prog Tryz.f3.params.toList (Tryz.f3.params.toList++Rows.performSamesSpec.plain.varTypes Tryz.prog++Tryz.f3.resultTypes.toList)=true:=by kernel_rfl
theorem fact_wfText:Rows.performSamesRow.wfByText (OpenSpec.ofChange Rows.performSamesSpec)=true:=by kernel_rfl
theorem fact_looks:true=Tryz.prog.looks []:=by kernel_rfl
theorem fact_mainIs:Tryz.prog.mainIs=some (true, "4b95278ca09441604a24093619919e4e21d3d96d140c783030c9bee40f2bd32e".toList):=by kernel_rfl
theorem fact_own:ownKnob Tryz.prog.godebug=none:=by kernel_rfl
theorem none_goes:Tryz.prog.funcs.toList.any Func.goes=false:=by kernel_rfl
theorem fact_goes:false=Rows.performSamesRow.goesBy Tryz.prog:=CE.goes_no none_goes rfl
theorem fact_inst:decide (Tryz.f3.isInstance Tryz.prog Rows.performSamesRow.origin Rows.performSamesRow.targs)=true:=by kernel_rfl
theorem fact_heardK:CE.stopsHeardK Tryz.prog=true:=by kernel_rfl
theorem fact_heard:Tryz.prog.stopsHeard=true:=by rw [←CE.stopsHeardK_eq];exact fact_heardK
theorem fact_mapsRowedK:CE.mapsRowedK Tryz.prog=true:=by kernel_rfl
theorem fact_mapsRowed:mapsRowed Tryz.prog=true:=by rw [←CE.mapsRowedK_eq];exact fact_mapsRowedK
theorem fact_plainKK:(Rows.performSamesRow.plainKeys==CE.plainKeysK Tryz.prog)=true:=by kernel_rfl
theorem fact_plainK:(Rows.performSamesRow.plainKeys==Tryz.prog.plainKeys)=true:=by rw [←CE.plainKeysK_eq];exact fact_plainKK
theorem fact_laidOutK:CE.laidOutK Tryz.prog=true:=by kernel_rfl
theorem fact_laidOut:laidOutB Tryz.prog=true:=by rw [←CE.laidOutK_eq];exact fact_laidOutK
theorem fact_funcNK:CE.funcNamedK Tryz.prog "longshore/longshorelaw09.PerformSames" =some 3:=by kernel_rfl
theorem fact_funcN:Tryz.prog.funcNamed "longshore/longshorelaw09.PerformSames" =some 3:=by rw [←CE.funcNamedK_eq];exact fact_funcNK
theorem fact_enterK:CE.mayEnterK Tryz.prog=true:=by kernel_rfl
theorem fact_enter:Tryz.prog.mayEnter=true:=by rw [←CE.mayEnterK_eq];exact fact_enterK
theorem fact_unfK:CE.unfollowedK Tryz.prog 3=true:=by kernel_rfl
theorem fact_unf:(Rows.performSamesRow.unfollowed==Tryz.prog.unfollowed 3)=true:=by rw [←CE.unfollowedK_eq,fact_unfK];rfl
theorem fact_recuK:CE.unfollowedK Tryz.prog 3=true:=by kernel_rfl
theorem fact_recu:(Rows.performSamesRow.recurses==Tryz.prog.recurses 3)=true:=by rw [CE.recurses_of _ fact_recuK];rfl
theorem fact_inPlaceK:(Rows.performSamesRow.inPlace==CE.inPlaceK Tryz.prog 3)=true:=by kernel_rfl
theorem fact_inPlace:(Rows.performSamesRow.inPlace==Tryz.prog.inPlace 3)=true:=by rw [←CE.inPlaceK_eq];exact fact_inPlaceK
theorem fact_namedK:(Rows.performSamesRow.named==CE.varsNamedK Tryz.prog 3)=true:=by kernel_rfl
theorem fact_named:(Rows.performSamesRow.named==Tryz.prog.varsNamed 3)=true:=by rw [←CE.varsNamedK_eq];exact fact_namedK
end Go.Proofs.YtfjlnfogbfmpiaaGreatDoor.performSames
