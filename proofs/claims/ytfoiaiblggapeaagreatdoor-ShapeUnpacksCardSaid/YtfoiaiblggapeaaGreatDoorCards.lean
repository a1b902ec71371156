/-
  DERIVED. GIVEN WITH THE SEED: THE CARDS: each row of YtfoiaiblggapeaaGreatDoorRows.lean that lists a variable, with what it lists TIED to the program's text (the seventh form; the later family's looks); each row that meets fmt, with fmt's text TOLD by the authors' own Lean function (tested against real Go, not proved from fmt's source: count such statements apart). THE CARD IS WHAT COUNTS. Prove the row's statement (the work); the ties are given (YtfoiaiblggapeaaGreatDoorTie.lean); close each card by the builder's one call (the guide's Derived/Test/ToyasCard.lean, 'card_holds'). Laid BY PROGRAM, IN A SANDBOX (cutbox-door.mjs). By AI agents, Wed Nov 11 2026. No macro, syntax, notation, axiom, sorry.
-/
import Derived.Test.YtfoiaiblggapeaaGreatDoorRows
import GoSem.ClaimSeven
namespace Go.Proofs.YtfoiaiblggapeaaGreatDoor
namespace Rows

/-- THE TIED CARD OF 'longshorelaw07.ShapeFields'. -/
def shapeFieldsCard : Claim7 := { stood := { row := shapeFieldsRow, standIns := [], harness := (true, "cf9370b1b1ff14ebcb28339e0c8f1527599e341fedacd0fa5168e4c923b7411b"), looks := false }, kinds := [], alts := [], laidByText := true, laidKinds := [.data, .listed, .data, .pinned], laidTests := true, laidLooks := .later }
def ShapeFieldsCardSaid : Prop := Claim7.holds Tryz.pinned (.plain (OpenSpec.ofChange shapeFieldsSpec)) shapeFieldsCard

/-- THE TIED CARD OF 'longshorelaw07.ShapeChecks'. -/
def shapeChecksCard : Claim7 := { stood := { row := shapeChecksRow, standIns := [], harness := (true, "cf9370b1b1ff14ebcb28339e0c8f1527599e341fedacd0fa5168e4c923b7411b"), looks := false }, kinds := [], alts := [], laidByText := true, laidKinds := [.data, .listed, .data, .pinned], laidTests := true, laidLooks := .later }
def ShapeChecksCardSaid : Prop := Claim7.holds Tryz.pinned (.plain (OpenSpec.ofChange shapeChecksSpec)) shapeChecksCard

/-- THE TIED CARD OF 'longshorelaw07.ShapePacks'. -/
def shapePacksCard : Claim7 := { stood := { row := shapePacksRow, standIns := [], harness := (true, "cf9370b1b1ff14ebcb28339e0c8f1527599e341fedacd0fa5168e4c923b7411b"), looks := false }, kinds := [], alts := [], laidByText := true, laidKinds := [.data, .listed, .data, .pinned], laidTests := true, laidLooks := .later }
def ShapePacksCardSaid : Prop := Claim7.holds Tryz.pinned (.plain (OpenSpec.ofChange shapePacksSpec)) shapePacksCard

/-- THE TIED CARD OF 'longshorelaw07.ShapeUnpacks'. -/
def shapeUnpacksCard : Claim7 := { stood := { row := shapeUnpacksRow, standIns := [], harness := (true, "cf9370b1b1ff14ebcb28339e0c8f1527599e341fedacd0fa5168e4c923b7411b"), looks := false }, kinds := [], alts := [], laidByText := true, laidKinds := [.data, .listed, .data, .pinned], laidTests := true, laidLooks := .later }
def ShapeUnpacksCardSaid : Prop := Claim7.holds Tryz.pinned (.plain (OpenSpec.ofChange shapeUnpacksSpec)) shapeUnpacksCard

/-- THE SECOND FORM's CARD OF 'longshorelaw07.ShapeFields'. -/
def shapeFieldsUptoCard : Claim7 := { stood := { row := shapeFieldsUptoRow, standIns := [], harness := (true, "cf9370b1b1ff14ebcb28339e0c8f1527599e341fedacd0fa5168e4c923b7411b"), looks := false }, kinds := [], alts := [], laidByText := true, laidKinds := [.data, .listed, .data, .pinned], laidTests := true, laidLooks := .later }
def ShapeFieldsUptoCardSaid : Prop := Claim7.holds Tryz.pinned (.plain (OpenSpec.upto shapeFieldsSpec)) shapeFieldsUptoCard

/-- THE SECOND FORM's CARD OF 'longshorelaw07.ShapeChecks'. -/
def shapeChecksUptoCard : Claim7 := { stood := { row := shapeChecksUptoRow, standIns := [], harness := (true, "cf9370b1b1ff14ebcb28339e0c8f1527599e341fedacd0fa5168e4c923b7411b"), looks := false }, kinds := [], alts := [], laidByText := true, laidKinds := [.data, .listed, .data, .pinned], laidTests := true, laidLooks := .later }
def ShapeChecksUptoCardSaid : Prop := Claim7.holds Tryz.pinned (.plain (OpenSpec.upto shapeChecksSpec)) shapeChecksUptoCard

/-- THE SECOND FORM's CARD OF 'longshorelaw07.ShapePacks'. -/
def shapePacksUptoCard : Claim7 := { stood := { row := shapePacksUptoRow, standIns := [], harness := (true, "cf9370b1b1ff14ebcb28339e0c8f1527599e341fedacd0fa5168e4c923b7411b"), looks := false }, kinds := [], alts := [], laidByText := true, laidKinds := [.data, .listed, .data, .pinned], laidTests := true, laidLooks := .later }
def ShapePacksUptoCardSaid : Prop := Claim7.holds Tryz.pinned (.plain (OpenSpec.upto shapePacksSpec)) shapePacksUptoCard

/-- THE SECOND FORM's CARD OF 'longshorelaw07.ShapeUnpacks'. -/
def shapeUnpacksUptoCard : Claim7 := { stood := { row := shapeUnpacksUptoRow, standIns := [], harness := (true, "cf9370b1b1ff14ebcb28339e0c8f1527599e341fedacd0fa5168e4c923b7411b"), looks := false }, kinds := [], alts := [], laidByText := true, laidKinds := [.data, .listed, .data, .pinned], laidTests := true, laidLooks := .later }
def ShapeUnpacksUptoCardSaid : Prop := Claim7.holds Tryz.pinned (.plain (OpenSpec.upto shapeUnpacksSpec)) shapeUnpacksUptoCard
end Rows
end Go.Proofs.YtfoiaiblggapeaaGreatDoor
