/-
  DERIVED. GIVEN WITH THE SEED: THE CARDS: each row of YtfjlnfogbfmpiaaGreatDoorRows.lean that lists a variable, with what it lists TIED to the program's text (the seventh form; the later family's looks); each row that meets fmt, with fmt's text TOLD by the authors' own Lean function (tested against real Go, not proved from fmt's source: count such statements apart). THE CARD IS WHAT COUNTS. Prove the row's statement (the work); the ties are given (YtfjlnfogbfmpiaaGreatDoorTie.lean); close each card by the builder's one call (the guide's Derived/Test/ToyasCard.lean, 'card_holds'). Laid BY PROGRAM, IN A SANDBOX (cutbox-door.mjs). By AI agents, Wed Nov 11 2026. No macro, syntax, notation, axiom, sorry.
-/
import Derived.Test.YtfjlnfogbfmpiaaGreatDoorRows
import GoSem.ClaimSeven
namespace Go.Proofs.YtfjlnfogbfmpiaaGreatDoor
namespace Rows

/-- THE TIED CARD OF 'longshorelaw09.PerformSames'. -/
def performSamesCard : Claim7 := { stood := { row := performSamesRow, standIns := [], harness := (true, "4b95278ca09441604a24093619919e4e21d3d96d140c783030c9bee40f2bd32e"), looks := true }, kinds := [], alts := [], laidByText := true, laidKinds := [.data, .listed, .data, .pinned], laidTests := true, laidLooks := .later }
def PerformSamesCardSaid : Prop := Claim7.holds Tryz.pinned (.plain (OpenSpec.ofChange performSamesSpec)) performSamesCard

/-- THE SECOND FORM's CARD OF 'longshorelaw09.PerformSames'. -/
def performSamesUptoCard : Claim7 := { stood := { row := performSamesUptoRow, standIns := [], harness := (true, "4b95278ca09441604a24093619919e4e21d3d96d140c783030c9bee40f2bd32e"), looks := true }, kinds := [], alts := [], laidByText := true, laidKinds := [.data, .listed, .data, .pinned], laidTests := true, laidLooks := .later }
def PerformSamesUptoCardSaid : Prop := Claim7.holds Tryz.pinned (.plain (OpenSpec.upto performSamesSpec)) performSamesUptoCard
end Rows
end Go.Proofs.YtfjlnfogbfmpiaaGreatDoor
