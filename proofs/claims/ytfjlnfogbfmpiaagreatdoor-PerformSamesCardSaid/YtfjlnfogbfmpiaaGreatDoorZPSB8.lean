/-
  The texts Awake9 of this claim, one behind the other.
-/
import Derived.Test.YtfjlnfogbfmpiaaGreatDoorProg
import Derived.Test.YtfjlnfogbfmpiaaGreatDoorZPSA9
import Derived.Lib.Space
import Derived.KernelRfl
namespace Go.Proofs.YtfjlnfogbfmpiaaGreatDoor.Aw
open Go
noncomputable def spaces:List (Nat×List Value):=[(0,Lib.asciiSpaceTab.map fun z=>Value.int .u8 z)]
theorem mixed:Tryz.prog.follows .mixedOrders=true:=by kernel_rfl
theorem noCount:CE.NoCount Tryz.prog:=CE.noCount_of (by kernel_rfl)
noncomputable def awakeE:CE.MemoE:={f:=4,args:=[],glob:=spaces,val:= .bool true}
theorem awake_says:awakeE.says Tryz.prog 7 1000000 []=true:=by kernel_rfl
theorem awake_ok:CE.MemoOk Tryz.prog 7 awakeE:=CE.memo_ok mixed noCount (CE.memo_none _ _) awake_says
end Go.Proofs.YtfjlnfogbfmpiaaGreatDoor.Aw
