/-
  DERIVED. GIVEN WITH THE SEED: THE CARDS: each row of YtannnhopgdlapaaGreatDoorRows.lean that lists a variable, with what it lists TIED to the program's text (the seventh form; the later family's looks); each row that meets fmt, with fmt's text TOLD by the authors' own Lean function (tested against real Go, not proved from fmt's source: count such statements apart). THE CARD IS WHAT COUNTS. Prove the row's statement (the work); the ties are given (YtannnhopgdlapaaGreatDoorTie.lean); close each card by the builder's one call (the guide's Derived/Test/ToyasCard.lean, 'card_holds'). Laid BY PROGRAM, IN A SANDBOX (cutbox-door.mjs). By AI agents, Wed Nov 11 2026. No macro, syntax, notation, axiom, sorry.
-/
import Derived.Test.YtannnhopgdlapaaGreatDoorRows
import GoSem.ClaimSeven
namespace Go.Proofs.YtannnhopgdlapaaGreatDoor
namespace Rows

/-- THE TIED CARD OF 'longshorelaw15.ConnNews'. -/
def connNewsCard : Claim7 := { stood := { row := connNewsRow, standIns := [], harness := (true, "2ff392dc20bb151e9d23c5862e9032c9a0a6bd3ae19388efe2382bb0cb0d3a60"), looks := true }, kinds := [], alts := [], laidByText := true, laidKinds := [.data, .listed, .data, .pinned], laidTests := true, laidLooks := .later }
def ConnNewsCardSaid : Prop := Claim7.holds Tryz.pinned (.plain (OpenSpec.ofChange connNewsSpec)) connNewsCard

/-- THE SECOND FORM's CARD OF 'longshorelaw15.ConnNews'. -/
def connNewsUptoCard : Claim7 := { stood := { row := connNewsUptoRow, standIns := [], harness := (true, "2ff392dc20bb151e9d23c5862e9032c9a0a6bd3ae19388efe2382bb0cb0d3a60"), looks := true }, kinds := [], alts := [], laidByText := true, laidKinds := [.data, .listed, .data, .pinned], laidTests := true, laidLooks := .later }
def ConnNewsUptoCardSaid : Prop := Claim7.holds Tryz.pinned (.plain (OpenSpec.upto connNewsSpec)) connNewsUptoCard
end Rows
end Go.Proofs.YtannnhopgdlapaaGreatDoor
