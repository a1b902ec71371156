/-
  DERIVED. GIVEN WITH THE SEED: THE CARDS: each row of YtmldhjoolebjoaaGreatDoorRows.lean that lists a variable, with what it lists TIED to the program's text (the seventh form; the later family's looks); each row that meets fmt, with fmt's text TOLD by the authors' own Lean function (tested against real Go, not proved from fmt's source: count such statements apart). THE CARD IS WHAT COUNTS. Prove the row's statement (the work); the ties are given (YtmldhjoolebjoaaGreatDoorTie.lean); close each card by the builder's one call (the guide's Derived/Test/ToyasCard.lean, 'card_holds'). Laid BY PROGRAM, IN A SANDBOX (cutbox-door.mjs). By AI agents, Wed Nov 11 2026. No macro, syntax, notation, axiom, sorry.
-/
import Derived.Test.YtmldhjoolebjoaaGreatDoorRows
import GoSem.ClaimSeven
namespace Go.Proofs.YtmldhjoolebjoaaGreatDoor
namespace Rows

/-- THE TIED CARD OF 'longshorelaw08.TermsFaults'. -/
def termsFaultsCard : Claim7 := { stood := { row := termsFaultsRow, standIns := [], harness := (true, "70d9546f463b314e70160d76c616c4e5ce245ee82a7ccad705a55feacac3496d"), looks := false }, kinds := [], alts := [], laidByText := true, laidKinds := [.data, .listed, .data, .pinned], laidTests := true, laidLooks := .later }
def TermsFaultsCardSaid : Prop := Claim7.holds Tryz.pinned (.plain (OpenSpec.ofChange termsFaultsSpec)) termsFaultsCard

/-- THE SECOND FORM's CARD OF 'longshorelaw08.TermsFaults'. -/
def termsFaultsUptoCard : Claim7 := { stood := { row := termsFaultsUptoRow, standIns := [], harness := (true, "70d9546f463b314e70160d76c616c4e5ce245ee82a7ccad705a55feacac3496d"), looks := false }, kinds := [], alts := [], laidByText := true, laidKinds := [.data, .listed, .data, .pinned], laidTests := true, laidLooks := .later }
def TermsFaultsUptoCardSaid : Prop := Claim7.holds Tryz.pinned (.plain (OpenSpec.upto termsFaultsSpec)) termsFaultsUptoCard
end Rows
end Go.Proofs.YtmldhjoolebjoaaGreatDoor
