/-
  DERIVED. GIVEN WITH THE SEED: THE CARDS: each row of YtjkokahaanplfaaGreatDoorRows.lean that lists a variable, with what it lists TIED to the program's text (the seventh form; the later family's looks); each row that meets fmt, with fmt's text TOLD by the authors' own Lean function (tested against real Go, not proved from fmt's source: count such statements apart). THE CARD IS WHAT COUNTS. Prove the row's statement (the work); the ties are given (YtjkokahaanplfaaGreatDoorTie.lean); close each card by the builder's one call (the guide's Derived/Test/ToyasCard.lean, 'card_holds'). Laid BY PROGRAM, IN A SANDBOX (cutbox-door.mjs). By AI agents, Wed Nov 11 2026. No macro, syntax, notation, axiom, sorry.
-/
import Derived.Test.YtjkokahaanplfaaGreatDoorRows
import GoSem.ClaimSeven
namespace Go.Proofs.YtjkokahaanplfaaGreatDoor
namespace Rows

/-- THE TIED CARD OF 'longshorelaw25.ClientMakes'. -/
def clientMakesCard : Claim7 := { stood := { row := clientMakesRow, standIns := [], harness := (true, "b6f04d21feb230e881d6547c0dbf9e3f36c15e4b0e0b036058d6475212516f0f"), looks := false }, kinds := [], alts := [], laidByText := true, laidKinds := [.data, .data, .data, .data, .listed, .data, .pinned], laidTests := true, laidLooks := .later }
def ClientMakesCardSaid : Prop := Claim7.holds Tryz.pinned (.plain (OpenSpec.ofChange clientMakesSpec)) clientMakesCard

/-- THE SECOND FORM's CARD OF 'longshorelaw25.ClientMakes'. -/
def clientMakesUptoCard : Claim7 := { stood := { row := clientMakesUptoRow, standIns := [], harness := (true, "b6f04d21feb230e881d6547c0dbf9e3f36c15e4b0e0b036058d6475212516f0f"), looks := false }, kinds := [], alts := [], laidByText := true, laidKinds := [.data, .data, .data, .data, .listed, .data, .pinned], laidTests := true, laidLooks := .later }
def ClientMakesUptoCardSaid : Prop := Claim7.holds Tryz.pinned (.plain (OpenSpec.upto clientMakesSpec)) clientMakesUptoCard
end Rows
end Go.Proofs.YtjkokahaanplfaaGreatDoor
