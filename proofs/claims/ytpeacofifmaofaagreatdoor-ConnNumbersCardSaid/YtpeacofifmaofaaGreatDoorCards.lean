/-
  DERIVED. GIVEN WITH THE SEED: THE CARDS: each row of YtpeacofifmaofaaGreatDoorRows.lean that lists a variable, with what it lists TIED to the program's text (the seventh form; the later family's looks); each row that meets fmt, with fmt's text TOLD by the authors' own Lean function (tested against real Go, not proved from fmt's source: count such statements apart). THE CARD IS WHAT COUNTS. Prove the row's statement (the work); the ties are given (YtpeacofifmaofaaGreatDoorTie.lean); close each card by the builder's one call (the guide's Derived/Test/ToyasCard.lean, 'card_holds'). Laid BY PROGRAM, IN A SANDBOX (cutbox-door.mjs). By AI agents, Wed Nov 11 2026. No macro, syntax, notation, axiom, sorry.
-/
import Derived.Test.YtpeacofifmaofaaGreatDoorRows
import GoSem.ClaimSeven
namespace Go.Proofs.YtpeacofifmaofaaGreatDoor
namespace Rows

/-- THE TIED CARD OF 'longshorelaw15.ConnNumbers'. -/
def connNumbersCard : Claim7 := { stood := { row := connNumbersRow, standIns := [], harness := (true, "952f59cea0629b1969590e648ca701dcd58e700493acc765286f99162369ee50"), looks := true }, kinds := [], alts := [], laidByText := true, laidKinds := [.data, .listed, .data, .pinned], laidTests := true, laidLooks := .later }
def ConnNumbersCardSaid : Prop := Claim7.holds Tryz.pinned (.plain (OpenSpec.ofChange connNumbersSpec)) connNumbersCard

/-- THE SECOND FORM's CARD OF 'longshorelaw15.ConnNumbers'. -/
def connNumbersUptoCard : Claim7 := { stood := { row := connNumbersUptoRow, standIns := [], harness := (true, "952f59cea0629b1969590e648ca701dcd58e700493acc765286f99162369ee50"), looks := true }, kinds := [], alts := [], laidByText := true, laidKinds := [.data, .listed, .data, .pinned], laidTests := true, laidLooks := .later }
def ConnNumbersUptoCardSaid : Prop := Claim7.holds Tryz.pinned (.plain (OpenSpec.upto connNumbersSpec)) connNumbersUptoCard
end Rows
end Go.Proofs.YtpeacofifmaofaaGreatDoor
