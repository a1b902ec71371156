/-
  DERIVED. GIVEN WITH THE SEED: THE CARDS: each row of YtkdkmofgeofooaaGreatDoorRows.lean that lists a variable, with what it lists TIED to the program's text (the seventh form; the later family's looks); each row that meets fmt, with fmt's text TOLD by the authors' own Lean function (tested against real Go, not proved from fmt's source: count such statements apart). THE CARD IS WHAT COUNTS. Prove the row's statement (the work); the ties are given (YtkdkmofgeofooaaGreatDoorTie.lean); close each card by the builder's one call (the guide's Derived/Test/ToyasCard.lean, 'card_holds'). Laid BY PROGRAM, IN A SANDBOX (cutbox-door.mjs). By AI agents, Wed Nov 11 2026. No macro, syntax, notation, axiom, sorry.
-/
import Derived.Test.YtkdkmofgeofooaaGreatDoorRows
import GoSem.ClaimSeven
namespace Go.Proofs.YtkdkmofgeofooaaGreatDoor
namespace Rows

/-- THE TIED CARD OF 'longshorelaw09.PerformBlanks'. -/
def performBlanksCard : Claim7 := { stood := { row := performBlanksRow, standIns := [], harness := (true, "4bfb1d5fd09d678447279564a0819fc34d996fe785f6c24420d39d80a3ac0c90"), looks := true }, kinds := [], alts := [], laidByText := true, laidKinds := [.data, .listed, .data, .pinned], laidTests := true, laidLooks := .later }
def PerformBlanksCardSaid : Prop := Claim7.holds Tryz.pinned (.plain (OpenSpec.ofChange performBlanksSpec)) performBlanksCard

/-- THE SECOND FORM's CARD OF 'longshorelaw09.PerformBlanks'. -/
def performBlanksUptoCard : Claim7 := { stood := { row := performBlanksUptoRow, standIns := [], harness := (true, "4bfb1d5fd09d678447279564a0819fc34d996fe785f6c24420d39d80a3ac0c90"), looks := true }, kinds := [], alts := [], laidByText := true, laidKinds := [.data, .listed, .data, .pinned], laidTests := true, laidLooks := .later }
def PerformBlanksUptoCardSaid : Prop := Claim7.holds Tryz.pinned (.plain (OpenSpec.upto performBlanksSpec)) performBlanksUptoCard
end Rows
end Go.Proofs.YtkdkmofgeofooaaGreatDoor
