/-
  The texts FactsD FactsE FactsF of this claim, one behind the other.
-/
import Derived.Test.YtmldhjoolebjoaaGreatDoorRows
import Derived.Test.YtmldhjoolebjoaaGreatDoorChecked
import Derived.ProofKit
import Derived.JoinedOf
import Derived.SevenTiedAt
namespace Go.Proofs.YtmldhjoolebjoaaGreatDoor.termsFaults
open Go.ChangeShapes Go.WideShapes Go.ChangeAt Go.RowKit
theorem VX:(Rows.termsFaultsRow.unfollowed==Tryz.prog.unfollowed 3)=true:=by kernel_rfl
theorem Su:(Rows.termsFaultsRow.recurses==Tryz.prog.recurses 3)=true:=by kernel_rfl
theorem Ib:(Rows.termsFaultsRow.inPlace==Tryz.prog.inPlace 3)=true:=by kernel_rfl
theorem NS:(Rows.termsFaultsRow.named==Tryz.prog.varsNamed 3)=true:=by kernel_rfl
end Go.Proofs.YtmldhjoolebjoaaGreatDoor.termsFaults
