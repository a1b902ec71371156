/-
  The texts FactsA FactsB FactsC of this claim, one behind the other.
-/
import Derived.Test.YtmldhjoolebjoaaGreatDoorRows
import Derived.Test.YtmldhjoolebjoaaGreatDoorChecked
import Derived.ProofKit
import Derived.JoinedOf
import Derived.SevenTiedAt
namespace Go.Proofs.YtmldhjoolebjoaaGreatDoor.termsFaults
open Go.ChangeShapes Go.WideShapes Go.ChangeAt Go.RowKit
theorem ZJ:Rows.termsFaultsRow.wf (OpenSpec.ofChange Rows.termsFaultsSpec)=true:=by kernel_rfl
theorem Ia:Tryz.f3.params.all (Tryz.prog.readableRec ·)=true:=by kernel_rfl
theorem J3:namedTie Tryz.prog Rows.termsFaultsRow.named Rows.termsFaultsSpec.vars=true:=by kernel_rfl
theorem J4:(Rows.termsFaultsRow.stops==[])=true:=by kernel_rfl
theorem J5:(Tryz.prog.stops==[])=true:=by kernel_rfl
theorem J6:(Rows.termsFaultsRow.knobs==[])=true:=by kernel_rfl
theorem J7:(Tryz.prog.stopKnobs==[])=true:=by kernel_rfl
theorem Sv:(Rows.termsFaultsRow.maps==(Tryz.f3.params.toList++Rows.termsFaultsSpec.plain.varTypes Tryz.prog).any (Tryz.prog.mapsRec ·))=true:=by kernel_rfl
theorem J8:(Rows.termsFaultsRow.ifaces==(Tryz.f3.params.toList++Rows.termsFaultsSpec.plain.varTypes Tryz.prog).any (Tryz.prog.ifacesRec ·))=true:=by kernel_rfl
theorem Ic:(Rows.termsFaultsRow.mapsOut==Tryz.prog.mapsAmong Tryz.f3.resultTypes.toList)=true:=by kernel_rfl
theorem NT:(Rows.termsFaultsRow.loops==(Tryz.f3.params.toList++Rows.termsFaultsSpec.plain.varTypes Tryz.prog).any (Tryz.prog.loopsFrom ·))=true:=by kernel_rfl
theorem NU:(Rows.termsFaultsRow.wideKeys==(Tryz.f3.params.toList++Rows.termsFaultsSpec.plain.varTypes Tryz.prog++Tryz.f3.resultTypes.toList).any (Tryz.prog.wideKeysFrom ·))=true:=by kernel_rfl
theorem NV:Rows.termsFaultsSpec.vars.all (Tryz.prog.varReadable ·)=true:=by kernel_rfl
theorem Sw:Tryz.f3.resultTypes.all (fun t=>Tryz.prog.readableRec t&&decide (t<Tryz.prog.types.size))=true:=by kernel_rfl
theorem Cj:(Rows.termsFaultsRow.ifacesOut==Tryz.f3.resultTypes.toList.any (Tryz.prog.ifacesRec ·))=true:=by kernel_rfl
theorem FB:(Rows.termsFaultsRow.loopsOut==Tryz.f3.resultTypes.toList.any (Tryz.prog.loopsFrom ·))=true:=by kernel_rfl
theorem NW:Rows.termsFaultsRow.shortTexts.isNone=true:=by kernel_rfl
theorem N7:(Rows.termsFaultsRow.lifted==Tryz.prog.liftsFinal)=true:=by kernel_rfl
theorem Sy:(Tryz.prog.make==some Rows.termsFaultsRow.make)=true:=by kernel_rfl
theorem Ka:(Rows.termsFaultsRow.pinned==Rows.termsFaultsRow.pinnedBy)=true:=by kernel_rfl
theorem Kb:(Rows.termsFaultsRow.veiled==(Tryz.f3.params.toList++Rows.termsFaultsSpec.plain.varTypes Tryz.prog++Tryz.f3.resultTypes.toList).any (Tryz.prog.veiledRec ·))=true:=by kernel_rfl
theorem Ie:Rows.termsFaultsRow.veiledFits Tryz.prog Tryz.f3.params.toList (Tryz.f3.params.toList++Rows.termsFaultsSpec.plain.varTypes Tryz.prog++Tryz.f3.resultTypes.toList)=true:=by kernel_rfl
theorem Ke:Rows.termsFaultsRow.wfByText (OpenSpec.ofChange Rows.termsFaultsSpec)=true:=by kernel_rfl
theorem N8:false=Tryz.prog.looks []:=by kernel_rfl
theorem Kg:Tryz.prog.mainIs=some (true, "70d9546f463b314e70160d76c616c4e5ce245ee82a7ccad705a55feacac3496d".toList):=by kernel_rfl
theorem VW:ownKnob Tryz.prog.godebug=none:=by kernel_rfl
theorem SA:false=Rows.termsFaultsRow.goesBy Tryz.prog:=by kernel_rfl
theorem Sz:decide (Tryz.f3.isInstance Tryz.prog Rows.termsFaultsRow.origin Rows.termsFaultsRow.targs)=true:=by kernel_rfl
theorem NY:Tryz.prog.stopsHeard=true:=by kernel_rfl
theorem Ci:mapsRowed Tryz.prog=true:=by kernel_rfl
theorem J9:(Rows.termsFaultsRow.plainKeys==Tryz.prog.plainKeys)=true:=by kernel_rfl
theorem xK:laidOutB Tryz.prog=true:=by kernel_rfl
theorem Ck:Tryz.prog.funcNamed "longshore/longshorelaw08.TermsFaults" =some 3:=by kernel_rfl
theorem NZ:Tryz.prog.mayEnter=true:=by kernel_rfl
end Go.Proofs.YtmldhjoolebjoaaGreatDoor.termsFaults
