/-
  DERIVED. GIVEN WITH THE SEED: THE CARDS: each row of YtckggmcjcdkfhaaGreatDoorRows.lean that lists a variable, with what it lists TIED to the program's text (the seventh form; the later family's looks); each row that meets fmt, with fmt's text TOLD by the authors' own Lean function (tested against real Go, not proved from fmt's source: count such statements apart). THE CARD IS WHAT COUNTS. Prove the row's statement (the work); the ties are given (YtckggmcjcdkfhaaGreatDoorTie.lean); close each card by the builder's one call (the guide's Derived/Test/ToyasCard.lean, 'card_holds'). Laid BY PROGRAM, IN A SANDBOX (cutbox-door.mjs). By AI agents, Wed Nov 11 2026. No macro, syntax, notation, axiom, sorry.
-/
import Derived.Test.YtckggmcjcdkfhaaGreatDoorRows
import GoSem.ClaimSeven
namespace Go.Proofs.YtckggmcjcdkfhaaGreatDoor
namespace Rows

/-- THE TIED CARD OF 'longshorelaw08.TermsSames'. -/
def termsSamesCard : Claim7 := { stood := { row := termsSamesRow, standIns := [], harness := (true, "99476d3f86d5d4fa648dc4626ad995d0ea182bc2f85a1dedf7cf379cb3c4c034"), looks := false }, kinds := [], alts := [], laidByText := true, laidKinds := [.data, .listed, .data, .pinned], laidTests := true, laidLooks := .later }
def TermsSamesCardSaid : Prop := Claim7.holds Tryz.pinned (.plain (OpenSpec.ofChange termsSamesSpec)) termsSamesCard

/-- THE TIED CARD OF 'longshorelaw08.TermsFaults'. -/
def termsFaultsCard : Claim7 := { stood := { row := termsFaultsRow, standIns := [], harness := (true, "99476d3f86d5d4fa648dc4626ad995d0ea182bc2f85a1dedf7cf379cb3c4c034"), looks := false }, kinds := [], alts := [], laidByText := true, laidKinds := [.data, .listed, .data, .pinned], laidTests := true, laidLooks := .later }
def TermsFaultsCardSaid : Prop := Claim7.holds Tryz.pinned (.plain (OpenSpec.ofChange termsFaultsSpec)) termsFaultsCard

/-- THE TIED CARD OF 'longshorelaw08.TermsStates'. -/
def termsStatesCard : Claim7 := { stood := { row := termsStatesRow, standIns := [], harness := (true, "99476d3f86d5d4fa648dc4626ad995d0ea182bc2f85a1dedf7cf379cb3c4c034"), looks := false }, kinds := [], alts := [], laidByText := true, laidKinds := [.data, .listed, .data, .pinned], laidTests := true, laidLooks := .later }
def TermsStatesCardSaid : Prop := Claim7.holds Tryz.pinned (.plain (OpenSpec.ofChange termsStatesSpec)) termsStatesCard

/-- THE TIED CARD OF 'longshorelaw08.TermsTermini'. -/
def termsTerminiCard : Claim7 := { stood := { row := termsTerminiRow, standIns := [], harness := (true, "99476d3f86d5d4fa648dc4626ad995d0ea182bc2f85a1dedf7cf379cb3c4c034"), looks := false }, kinds := [], alts := [], laidByText := true, laidKinds := [.data, .listed, .data, .pinned], laidTests := true, laidLooks := .later }
def TermsTerminiCardSaid : Prop := Claim7.holds Tryz.pinned (.plain (OpenSpec.ofChange termsTerminiSpec)) termsTerminiCard

/-- THE TIED CARD OF 'longshorelaw08.TermsReads'. -/
def termsReadsCard : Claim7 := { stood := { row := termsReadsRow, standIns := [], harness := (true, "99476d3f86d5d4fa648dc4626ad995d0ea182bc2f85a1dedf7cf379cb3c4c034"), looks := false }, kinds := [], alts := [], laidByText := true, laidKinds := [.data, .listed, .data, .pinned], laidTests := true, laidLooks := .later }
def TermsReadsCardSaid : Prop := Claim7.holds Tryz.pinned (.plain (OpenSpec.ofChange termsReadsSpec)) termsReadsCard

/-- THE TIED CARD OF 'longshorelaw08.TermsBack'. -/
def termsBackCard : Claim7 := { stood := { row := termsBackRow, standIns := [], harness := (true, "99476d3f86d5d4fa648dc4626ad995d0ea182bc2f85a1dedf7cf379cb3c4c034"), looks := false }, kinds := [], alts := [], laidByText := true, laidKinds := [.data, .listed, .data, .pinned], laidTests := true, laidLooks := .later }
def TermsBackCardSaid : Prop := Claim7.holds Tryz.pinned (.plain (OpenSpec.ofChange termsBackSpec)) termsBackCard

/-- THE SECOND FORM's CARD OF 'longshorelaw08.TermsSames'. -/
def termsSamesUptoCard : Claim7 := { stood := { row := termsSamesUptoRow, standIns := [], harness := (true, "99476d3f86d5d4fa648dc4626ad995d0ea182bc2f85a1dedf7cf379cb3c4c034"), looks := false }, kinds := [], alts := [], laidByText := true, laidKinds := [.data, .listed, .data, .pinned], laidTests := true, laidLooks := .later }
def TermsSamesUptoCardSaid : Prop := Claim7.holds Tryz.pinned (.plain (OpenSpec.upto termsSamesSpec)) termsSamesUptoCard

/-- THE SECOND FORM's CARD OF 'longshorelaw08.TermsFaults'. -/
def termsFaultsUptoCard : Claim7 := { stood := { row := termsFaultsUptoRow, standIns := [], harness := (true, "99476d3f86d5d4fa648dc4626ad995d0ea182bc2f85a1dedf7cf379cb3c4c034"), looks := false }, kinds := [], alts := [], laidByText := true, laidKinds := [.data, .listed, .data, .pinned], laidTests := true, laidLooks := .later }
def TermsFaultsUptoCardSaid : Prop := Claim7.holds Tryz.pinned (.plain (OpenSpec.upto termsFaultsSpec)) termsFaultsUptoCard

/-- THE SECOND FORM's CARD OF 'longshorelaw08.TermsStates'. -/
def termsStatesUptoCard : Claim7 := { stood := { row := termsStatesUptoRow, standIns := [], harness := (true, "99476d3f86d5d4fa648dc4626ad995d0ea182bc2f85a1dedf7cf379cb3c4c034"), looks := false }, kinds := [], alts := [], laidByText := true, laidKinds := [.data, .listed, .data, .pinned], laidTests := true, laidLooks := .later }
def TermsStatesUptoCardSaid : Prop := Claim7.holds Tryz.pinned (.plain (OpenSpec.upto termsStatesSpec)) termsStatesUptoCard

/-- THE SECOND FORM's CARD OF 'longshorelaw08.TermsTermini'. -/
def termsTerminiUptoCard : Claim7 := { stood := { row := termsTerminiUptoRow, standIns := [], harness := (true, "99476d3f86d5d4fa648dc4626ad995d0ea182bc2f85a1dedf7cf379cb3c4c034"), looks := false }, kinds := [], alts := [], laidByText := true, laidKinds := [.data, .listed, .data, .pinned], laidTests := true, laidLooks := .later }
def TermsTerminiUptoCardSaid : Prop := Claim7.holds Tryz.pinned (.plain (OpenSpec.upto termsTerminiSpec)) termsTerminiUptoCard

/-- THE SECOND FORM's CARD OF 'longshorelaw08.TermsReads'. -/
def termsReadsUptoCard : Claim7 := { stood := { row := termsReadsUptoRow, standIns := [], harness := (true, "99476d3f86d5d4fa648dc4626ad995d0ea182bc2f85a1dedf7cf379cb3c4c034"), looks := false }, kinds := [], alts := [], laidByText := true, laidKinds := [.data, .listed, .data, .pinned], laidTests := true, laidLooks := .later }
def TermsReadsUptoCardSaid : Prop := Claim7.holds Tryz.pinned (.plain (OpenSpec.upto termsReadsSpec)) termsReadsUptoCard

/-- THE SECOND FORM's CARD OF 'longshorelaw08.TermsBack'. -/
def termsBackUptoCard : Claim7 := { stood := { row := termsBackUptoRow, standIns := [], harness := (true, "99476d3f86d5d4fa648dc4626ad995d0ea182bc2f85a1dedf7cf379cb3c4c034"), looks := false }, kinds := [], alts := [], laidByText := true, laidKinds := [.data, .listed, .data, .pinned], laidTests := true, laidLooks := .later }
def TermsBackUptoCardSaid : Prop := Claim7.holds Tryz.pinned (.plain (OpenSpec.upto termsBackSpec)) termsBackUptoCard
end Rows
end Go.Proofs.YtckggmcjcdkfhaaGreatDoor
