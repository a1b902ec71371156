/-
  DERIVED. GIVEN WITH THE SEED: THE CARDS: each row of YtfoiaiblggapeaaDoorRows.lean that lists a variable, with what it lists TIED to the program's text (the seventh form; the later family's looks); each row that meets fmt, with fmt's text TOLD by the authors' own Lean function (tested against real Go, not proved from fmt's source: count such statements apart). THE CARD IS WHAT COUNTS. Prove the row's statement (the work); the ties are given (YtfoiaiblggapeaaDoorTie.lean); close each card by the builder's one call (the guide's Derived/Test/ToyasCard.lean, 'card_holds'). Laid BY PROGRAM, IN A SANDBOX (cutbox-door.mjs). By AI agents, Wed Nov 11 2026. No macro, syntax, notation, axiom, sorry.
-/
import Derived.Test.YtfoiaiblggapeaaDoorRows
import GoSem.ClaimSeven
namespace Go.Proofs.YtfoiaiblggapeaaDoor
namespace Rows

/-- THE TIED CARD OF 'longshorelaw07.ShapeNumbers'. -/
def shapeNumbersCard : Claim7 := { stood := { row := shapeNumbersRow, standIns := [], harness := (true, "aa7d4d90d39d56e74064de7aadf4df16557b048d04d44f7824a2a011b39cc821"), looks := false }, kinds := [], alts := [], laidByText := true, laidKinds := [.data, .listed, .data, .pinned], laidTests := true, laidLooks := .later }
def ShapeNumbersCardSaid : Prop := Claim7.holds Tryd.pinned (.plain (OpenSpec.ofChange shapeNumbersSpec)) shapeNumbersCard

/-- THE TIED CARD OF 'longshorelaw07.ShapeKinds'. -/
def shapeKindsCard : Claim7 := { stood := { row := shapeKindsRow, standIns := [], harness := (true, "aa7d4d90d39d56e74064de7aadf4df16557b048d04d44f7824a2a011b39cc821"), looks := false }, kinds := [], alts := [], laidByText := true, laidKinds := [.data, .listed, .data, .pinned], laidTests := true, laidLooks := .later }
def ShapeKindsCardSaid : Prop := Claim7.holds Tryd.pinned (.plain (OpenSpec.ofChange shapeKindsSpec)) shapeKindsCard

/-- THE TIED CARD OF 'longshorelaw07.ShapeBack'. -/
def shapeBackCard : Claim7 := { stood := { row := shapeBackRow, standIns := [], harness := (true, "aa7d4d90d39d56e74064de7aadf4df16557b048d04d44f7824a2a011b39cc821"), looks := false }, kinds := [], alts := [], laidByText := true, laidKinds := [.data, .listed, .data, .pinned], laidTests := true, laidLooks := .later }
def ShapeBackCardSaid : Prop := Claim7.holds Tryd.pinned (.plain (OpenSpec.ofChange shapeBackSpec)) shapeBackCard

/-- THE TIED CARD OF 'longshorelaw07.ShapeForms'. -/
def shapeFormsCard : Claim7 := { stood := { row := shapeFormsRow, standIns := [], harness := (true, "aa7d4d90d39d56e74064de7aadf4df16557b048d04d44f7824a2a011b39cc821"), looks := false }, kinds := [], alts := [], laidByText := true, laidKinds := [.data, .listed, .data, .pinned], laidTests := true, laidLooks := .later }
def ShapeFormsCardSaid : Prop := Claim7.holds Tryd.pinned (.plain (OpenSpec.ofChange shapeFormsSpec)) shapeFormsCard

/-- THE TIED CARD OF 'longshorelaw07.ShapeShort'. -/
def shapeShortCard : Claim7 := { stood := { row := shapeShortRow, standIns := [], harness := (true, "aa7d4d90d39d56e74064de7aadf4df16557b048d04d44f7824a2a011b39cc821"), looks := false }, kinds := [], alts := [], laidByText := true, laidKinds := [.data, .listed, .data, .pinned], laidTests := true, laidLooks := .later }
def ShapeShortCardSaid : Prop := Claim7.holds Tryd.pinned (.plain (OpenSpec.ofChange shapeShortSpec)) shapeShortCard

/-- THE SECOND FORM's CARD OF 'longshorelaw07.ShapeNumbers'. -/
def shapeNumbersUptoCard : Claim7 := { stood := { row := shapeNumbersUptoRow, standIns := [], harness := (true, "aa7d4d90d39d56e74064de7aadf4df16557b048d04d44f7824a2a011b39cc821"), looks := false }, kinds := [], alts := [], laidByText := true, laidKinds := [.data, .listed, .data, .pinned], laidTests := true, laidLooks := .later }
def ShapeNumbersUptoCardSaid : Prop := Claim7.holds Tryd.pinned (.plain (OpenSpec.upto shapeNumbersSpec)) shapeNumbersUptoCard

/-- THE SECOND FORM's CARD OF 'longshorelaw07.ShapeKinds'. -/
def shapeKindsUptoCard : Claim7 := { stood := { row := shapeKindsUptoRow, standIns := [], harness := (true, "aa7d4d90d39d56e74064de7aadf4df16557b048d04d44f7824a2a011b39cc821"), looks := false }, kinds := [], alts := [], laidByText := true, laidKinds := [.data, .listed, .data, .pinned], laidTests := true, laidLooks := .later }
def ShapeKindsUptoCardSaid : Prop := Claim7.holds Tryd.pinned (.plain (OpenSpec.upto shapeKindsSpec)) shapeKindsUptoCard

/-- THE SECOND FORM's CARD OF 'longshorelaw07.ShapeBack'. -/
def shapeBackUptoCard : Claim7 := { stood := { row := shapeBackUptoRow, standIns := [], harness := (true, "aa7d4d90d39d56e74064de7aadf4df16557b048d04d44f7824a2a011b39cc821"), looks := false }, kinds := [], alts := [], laidByText := true, laidKinds := [.data, .listed, .data, .pinned], laidTests := true, laidLooks := .later }
def ShapeBackUptoCardSaid : Prop := Claim7.holds Tryd.pinned (.plain (OpenSpec.upto shapeBackSpec)) shapeBackUptoCard

/-- THE SECOND FORM's CARD OF 'longshorelaw07.ShapeForms'. -/
def shapeFormsUptoCard : Claim7 := { stood := { row := shapeFormsUptoRow, standIns := [], harness := (true, "aa7d4d90d39d56e74064de7aadf4df16557b048d04d44f7824a2a011b39cc821"), looks := false }, kinds := [], alts := [], laidByText := true, laidKinds := [.data, .listed, .data, .pinned], laidTests := true, laidLooks := .later }
def ShapeFormsUptoCardSaid : Prop := Claim7.holds Tryd.pinned (.plain (OpenSpec.upto shapeFormsSpec)) shapeFormsUptoCard

/-- THE SECOND FORM's CARD OF 'longshorelaw07.ShapeShort'. -/
def shapeShortUptoCard : Claim7 := { stood := { row := shapeShortUptoRow, standIns := [], harness := (true, "aa7d4d90d39d56e74064de7aadf4df16557b048d04d44f7824a2a011b39cc821"), looks := false }, kinds := [], alts := [], laidByText := true, laidKinds := [.data, .listed, .data, .pinned], laidTests := true, laidLooks := .later }
def ShapeShortUptoCardSaid : Prop := Claim7.holds Tryd.pinned (.plain (OpenSpec.upto shapeShortSpec)) shapeShortUptoCard
end Rows
end Go.Proofs.YtfoiaiblggapeaaDoor
