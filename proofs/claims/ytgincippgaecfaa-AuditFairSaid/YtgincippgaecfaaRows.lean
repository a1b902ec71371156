/-
  No cell of these rows narrows 'for every input' (looked for: loops, veiled, ifaces, maps, wideKeys, modest, calm, conditions, laid).
  DERIVED. THE GIVEN ROWS OF THIS SEAT. 5 by the template 'for every input the law returns true; each argument reads behind the call as it read before'; 0 by the template 'total and deterministic' (their statements: YtgincippgaecfaaTotals.lean).
  GIVEN WITH THE SEED: the statements are not yours to turn. If you find one false, say at which input.
  Laid BY PROGRAM, IN A SANDBOX (cutbox-rows.mjs): the forced cells as the released guide's own fill.sh prints them over the translation ff854c93e25d6406… (all of the seat's roots in one cut). By AI agents, Wed Nov 11 2026. No macro, syntax, notation, axiom, sorry.
-/
import Derived.Test.YtgincippgaecfaaChecked
import GoSem.Claim
import GoSem.ClaimJoined
import GoSem.ClaimMapViews
import Derived.JoinedTies
import Derived.KernelRfl
namespace Go.Proofs.Ytgincippgaecfaa
/- THE CELL 'sum', in the pinned program and in every row, IS THE sha256 OF THE DUMP (.gsa) THAT YtgincippgaecfaaProg.lean LOADS. Nothing in Lean hashes anything: it is a label: what it is worth is what the hold of that sum in a sandbox is worth. -/
noncomputable def Try.pinned : Pinned := { name := "ytgincippgaecfaa", sum := "ff854c93e25d6406913f9ab99b72e8e07f20d76dc5e20a768412e32bb7bce33d", checked := Try.checked }
namespace Rows
def none {H : Type} : Left H := { results := [], args := [] }

/-- 'longshorelaw27.AuditJudges': WHATEVER THE INPUT: true; the input reads as it did. -/
def auditJudgesSpec : ChangeSpec := { name := "auditJudges", fn := fun _ => fun
  | [d1, d2, d3] => { results := [.lit (.bool true)], args := [d1, d2, d3] }
  | _ => none }
def auditJudgesRow : OpenClaim := { program := "ytgincippgaecfaa", sum := "ff854c93e25d6406913f9ab99b72e8e07f20d76dc5e20a768412e32bb7bce33d", func := "longshore/longshorelaw27.AuditJudges", spec := "auditJudges", inPlace := ["internal/reflectlite.ValueOf", "internal/reflectlite.Swapper", "(internal/reflectlite.Value).Len"], unfollowed := true, recurses := true, plainKeys := false, apart := false }
def AuditJudgesSaid : Prop := auditJudgesRow.holds Try.pinned (OpenSpec.ofChange auditJudgesSpec)

/-- ITS FALSE NEIGHBOUR: 'it returns false'. Refute it at one input. -/
def auditJudgesWrong : ChangeSpec := { name := "auditJudges", fn := fun _ => fun
  | [d1, d2, d3] => { results := [.lit (.bool false)], args := [d1, d2, d3] }
  | _ => none }
def AuditJudgesWrongFalsely : Prop := auditJudgesRow.holds Try.pinned (OpenSpec.ofChange auditJudgesWrong)

/-- 'longshorelaw27.AuditLefts': WHATEVER THE INPUT: true; the input reads as it did. -/
def auditLeftsSpec : ChangeSpec := { name := "auditLefts", fn := fun _ => fun
  | [d1, d2, d3] => { results := [.lit (.bool true)], args := [d1, d2, d3] }
  | _ => none }
def auditLeftsRow : OpenClaim := { program := "ytgincippgaecfaa", sum := "ff854c93e25d6406913f9ab99b72e8e07f20d76dc5e20a768412e32bb7bce33d", func := "longshore/longshorelaw27.AuditLefts", spec := "auditLefts", inPlace := ["internal/reflectlite.ValueOf", "internal/reflectlite.Swapper", "(internal/reflectlite.Value).Len"], unfollowed := true, recurses := true, plainKeys := false, apart := false }
def AuditLeftsSaid : Prop := auditLeftsRow.holds Try.pinned (OpenSpec.ofChange auditLeftsSpec)

/-- ITS FALSE NEIGHBOUR: 'it returns false'. Refute it at one input. -/
def auditLeftsWrong : ChangeSpec := { name := "auditLefts", fn := fun _ => fun
  | [d1, d2, d3] => { results := [.lit (.bool false)], args := [d1, d2, d3] }
  | _ => none }
def AuditLeftsWrongFalsely : Prop := auditLeftsRow.holds Try.pinned (OpenSpec.ofChange auditLeftsWrong)

/-- 'longshorelaw27.AuditOrders': WHATEVER THE INPUT: true; the input reads as it did. -/
def auditOrdersSpec : ChangeSpec := { name := "auditOrders", fn := fun _ => fun
  | [d1, d2, d3] => { results := [.lit (.bool true)], args := [d1, d2, d3] }
  | _ => none }
def auditOrdersRow : OpenClaim := { program := "ytgincippgaecfaa", sum := "ff854c93e25d6406913f9ab99b72e8e07f20d76dc5e20a768412e32bb7bce33d", func := "longshore/longshorelaw27.AuditOrders", spec := "auditOrders", inPlace := ["internal/reflectlite.ValueOf", "internal/reflectlite.Swapper", "(internal/reflectlite.Value).Len"], unfollowed := true, recurses := true, plainKeys := false, apart := false }
def AuditOrdersSaid : Prop := auditOrdersRow.holds Try.pinned (OpenSpec.ofChange auditOrdersSpec)

/-- ITS FALSE NEIGHBOUR: 'it returns false'. Refute it at one input. -/
def auditOrdersWrong : ChangeSpec := { name := "auditOrders", fn := fun _ => fun
  | [d1, d2, d3] => { results := [.lit (.bool false)], args := [d1, d2, d3] }
  | _ => none }
def AuditOrdersWrongFalsely : Prop := auditOrdersRow.holds Try.pinned (OpenSpec.ofChange auditOrdersWrong)

/-- 'longshorelaw27.AuditBegins': WHATEVER THE INPUT: true; the input reads as it did. -/
def auditBeginsSpec : ChangeSpec := { name := "auditBegins", fn := fun _ => fun
  | [d1, d2, d3, d4] => { results := [.lit (.bool true)], args := [d1, d2, d3, d4] }
  | _ => none }
def auditBeginsRow : OpenClaim := { program := "ytgincippgaecfaa", sum := "ff854c93e25d6406913f9ab99b72e8e07f20d76dc5e20a768412e32bb7bce33d", func := "longshore/longshorelaw27.AuditBegins", spec := "auditBegins", inPlace := ["internal/reflectlite.ValueOf", "internal/reflectlite.Swapper", "(internal/reflectlite.Value).Len"], unfollowed := true, recurses := true, plainKeys := false, apart := false }
def AuditBeginsSaid : Prop := auditBeginsRow.holds Try.pinned (OpenSpec.ofChange auditBeginsSpec)

/-- ITS FALSE NEIGHBOUR: 'it returns false'. Refute it at one input. -/
def auditBeginsWrong : ChangeSpec := { name := "auditBegins", fn := fun _ => fun
  | [d1, d2, d3, d4] => { results := [.lit (.bool false)], args := [d1, d2, d3, d4] }
  | _ => none }
def AuditBeginsWrongFalsely : Prop := auditBeginsRow.holds Try.pinned (OpenSpec.ofChange auditBeginsWrong)

/-- 'longshorelaw27.AuditFair': WHATEVER THE INPUT: true; the input reads as it did. -/
def auditFairSpec : ChangeSpec := { name := "auditFair", fn := fun _ => fun
  | [d] => { results := [.lit (.bool true)], args := [d] }
  | _ => none }
def auditFairRow : OpenClaim := { program := "ytgincippgaecfaa", sum := "ff854c93e25d6406913f9ab99b72e8e07f20d76dc5e20a768412e32bb7bce33d", func := "longshore/longshorelaw27.AuditFair", spec := "auditFair", inPlace := ["internal/reflectlite.ValueOf", "internal/reflectlite.Swapper", "(internal/reflectlite.Value).Len"], unfollowed := true, recurses := true, plainKeys := false, apart := false }
def AuditFairSaid : Prop := auditFairRow.holds Try.pinned (OpenSpec.ofChange auditFairSpec)

/-- ITS FALSE NEIGHBOUR: 'it returns false'. Refute it at one input. -/
def auditFairWrong : ChangeSpec := { name := "auditFair", fn := fun _ => fun
  | [d] => { results := [.lit (.bool false)], args := [d] }
  | _ => none }
def AuditFairWrongFalsely : Prop := auditFairRow.holds Try.pinned (OpenSpec.ofChange auditFairWrong)

/- THE SECOND FORM. 'bulk': how many values and letters a reading holds, each counted each time it is reached (what is shared counts as often as it is met; a slice's spare places count too). A statement '..UptoSaid' is the law's where the arguments, and the package variables that the reading takes, are together of bulk at most 1048576: NARROWER than '..Said'. Prove '..Said' where nothing that the law and all that it calls make is longer than what came in: it says more and counts as full. Else prove '..UptoSaid'. A law counts once. -/
mutual
def uptoBulk {H : Type} : DataW H → Nat
  | .lit (.string bytes) => bytes.length + 1
  | .lit _ => 1
  | .nil => 1
  | .ptr d => uptoBulk d + 1
  | .slice elems spare => uptoBulkAll elems + uptoBulkAll spare + 1
  | .agg parts => uptoBulkAll parts + 1
  | .iface _ d => uptoBulk d + 1
  | .map entries => uptoBulkEntries entries + 1
  | .held _ => 1
def uptoBulkAll {H : Type} : List (DataW H) → Nat
  | [] => 0
  | d :: r => uptoBulk d + uptoBulkAll r
def uptoBulkEntries {H : Type} : List (Lit × DataW H) → Nat
  | [] => 0
  | x :: r => uptoBulkEntry x + uptoBulkEntries r
def uptoBulkEntry {H : Type} : Lit × DataW H → Nat
  | (.string bytes, d) => bytes.length + uptoBulk d + 1
  | (_, d) => uptoBulk d + 1
 end
def uptoSmall : (H : Type) → List (DataW H) → Bool := fun _ ds => decide (uptoBulkAll ds ≤ 1048576)
def OpenSpec.upto (s : _root_.Go.ChangeSpec) : _root_.Go.OpenSpec := { _root_.Go.OpenSpec.ofChange s with cond := some uptoSmall }

/-- 'longshorelaw27.AuditJudges', WHERE WHAT IT READS IS OF BULK AT MOST 1048576: true; the input reads as it did. -/
def auditJudgesUptoRow : OpenClaim := { program := "ytgincippgaecfaa", sum := "ff854c93e25d6406913f9ab99b72e8e07f20d76dc5e20a768412e32bb7bce33d", func := "longshore/longshorelaw27.AuditJudges", spec := "auditJudges", inPlace := ["internal/reflectlite.ValueOf", "internal/reflectlite.Swapper", "(internal/reflectlite.Value).Len"], unfollowed := true, recurses := true, plainKeys := false, apart := false, narrowed := true }
def AuditJudgesUptoSaid : Prop := auditJudgesUptoRow.holds Try.pinned (OpenSpec.upto auditJudgesSpec)

/-- 'longshorelaw27.AuditLefts', WHERE WHAT IT READS IS OF BULK AT MOST 1048576: true; the input reads as it did. -/
def auditLeftsUptoRow : OpenClaim := { program := "ytgincippgaecfaa", sum := "ff854c93e25d6406913f9ab99b72e8e07f20d76dc5e20a768412e32bb7bce33d", func := "longshore/longshorelaw27.AuditLefts", spec := "auditLefts", inPlace := ["internal/reflectlite.ValueOf", "internal/reflectlite.Swapper", "(internal/reflectlite.Value).Len"], unfollowed := true, recurses := true, plainKeys := false, apart := false, narrowed := true }
def AuditLeftsUptoSaid : Prop := auditLeftsUptoRow.holds Try.pinned (OpenSpec.upto auditLeftsSpec)

/-- 'longshorelaw27.AuditOrders', WHERE WHAT IT READS IS OF BULK AT MOST 1048576: true; the input reads as it did. -/
def auditOrdersUptoRow : OpenClaim := { program := "ytgincippgaecfaa", sum := "ff854c93e25d6406913f9ab99b72e8e07f20d76dc5e20a768412e32bb7bce33d", func := "longshore/longshorelaw27.AuditOrders", spec := "auditOrders", inPlace := ["internal/reflectlite.ValueOf", "internal/reflectlite.Swapper", "(internal/reflectlite.Value).Len"], unfollowed := true, recurses := true, plainKeys := false, apart := false, narrowed := true }
def AuditOrdersUptoSaid : Prop := auditOrdersUptoRow.holds Try.pinned (OpenSpec.upto auditOrdersSpec)

/-- 'longshorelaw27.AuditBegins', WHERE WHAT IT READS IS OF BULK AT MOST 1048576: true; the input reads as it did. -/
def auditBeginsUptoRow : OpenClaim := { program := "ytgincippgaecfaa", sum := "ff854c93e25d6406913f9ab99b72e8e07f20d76dc5e20a768412e32bb7bce33d", func := "longshore/longshorelaw27.AuditBegins", spec := "auditBegins", inPlace := ["internal/reflectlite.ValueOf", "internal/reflectlite.Swapper", "(internal/reflectlite.Value).Len"], unfollowed := true, recurses := true, plainKeys := false, apart := false, narrowed := true }
def AuditBeginsUptoSaid : Prop := auditBeginsUptoRow.holds Try.pinned (OpenSpec.upto auditBeginsSpec)

/-- 'longshorelaw27.AuditFair', WHERE WHAT IT READS IS OF BULK AT MOST 1048576: true; the input reads as it did. -/
def auditFairUptoRow : OpenClaim := { program := "ytgincippgaecfaa", sum := "ff854c93e25d6406913f9ab99b72e8e07f20d76dc5e20a768412e32bb7bce33d", func := "longshore/longshorelaw27.AuditFair", spec := "auditFair", inPlace := ["internal/reflectlite.ValueOf", "internal/reflectlite.Swapper", "(internal/reflectlite.Value).Len"], unfollowed := true, recurses := true, plainKeys := false, apart := false, narrowed := true }
def AuditFairUptoSaid : Prop := auditFairUptoRow.holds Try.pinned (OpenSpec.upto auditFairSpec)

end Rows
end Go.Proofs.Ytgincippgaecfaa
