/-
  No cell of these rows narrows 'for every input' (looked for: loops, veiled, ifaces, maps, wideKeys, modest, calm, conditions, laid).
  DERIVED. THE GIVEN ROWS OF THIS SEAT. 8 by the template 'for every input the law returns true; each argument reads behind the call as it read before'; 0 by the template 'total and deterministic' (their statements: YtgkmdfjjlghecaaTotals.lean).
  GIVEN WITH THE SEED: the statements are not yours to turn. If you find one false, say at which input.
  Laid BY PROGRAM, IN A SANDBOX (cutbox-rows.mjs): the forced cells as the released guide's own fill.sh prints them over the translation 65281c91a147edc4… (all of the seat's roots in one cut). By AI agents, Wed Nov 11 2026. No macro, syntax, notation, axiom, sorry.
-/
import Derived.Test.YtgkmdfjjlghecaaChecked
import GoSem.Claim
import GoSem.ClaimJoined
import GoSem.ClaimMapViews
import Derived.JoinedTies
import Derived.KernelRfl
namespace Go.Proofs.Ytgkmdfjjlghecaa
/- THE CELL 'sum', in the pinned program and in every row, IS THE sha256 OF THE DUMP (.gsa) THAT YtgkmdfjjlghecaaProg.lean LOADS. Nothing in Lean hashes anything: it is a label: what it is worth is what the hold of that sum in a sandbox is worth. -/
noncomputable def Try.pinned : Pinned := { name := "ytgkmdfjjlghecaa", sum := "65281c91a147edc428cd4cb8d667571df0d439d6a9b733e2505e4bcdc3c9ee9d", checked := Try.checked }
namespace Rows
def none {H : Type} : Left H := { results := [], args := [] }

/-- 'laws.FnExactCanBeFirst': WHATEVER THE INPUT: true; the input reads as it did. -/
def fnExactCanBeFirstSpec : ChangeSpec := { name := "fnExactCanBeFirst", fn := fun _ => fun
  | [d1, d2, d3] => { results := [.lit (.bool true)], args := [d1, d2, d3] }
  | _ => none }
def fnExactCanBeFirstRow : OpenClaim := { program := "ytgkmdfjjlghecaa", sum := "65281c91a147edc428cd4cb8d667571df0d439d6a9b733e2505e4bcdc3c9ee9d", func := "loop.example/g01379/laws.FnExactCanBeFirst", spec := "fnExactCanBeFirst", unfollowed := true, recurses := true, apart := false }
def FnExactCanBeFirstSaid : Prop := fnExactCanBeFirstRow.holds Try.pinned (OpenSpec.ofChange fnExactCanBeFirstSpec)

/-- ITS FALSE NEIGHBOUR: 'it returns false'. Refute it at one input. -/
def fnExactCanBeFirstWrong : ChangeSpec := { name := "fnExactCanBeFirst", fn := fun _ => fun
  | [d1, d2, d3] => { results := [.lit (.bool false)], args := [d1, d2, d3] }
  | _ => none }
def FnExactCanBeFirstWrongFalsely : Prop := fnExactCanBeFirstRow.holds Try.pinned (OpenSpec.ofChange fnExactCanBeFirstWrong)

/-- 'laws.FnExactFirstTeams': WHATEVER THE INPUT: true; the input reads as it did. -/
def fnExactFirstTeamsSpec : ChangeSpec := { name := "fnExactFirstTeams", fn := fun _ => fun
  | [d1, d2] => { results := [.lit (.bool true)], args := [d1, d2] }
  | _ => none }
def fnExactFirstTeamsRow : OpenClaim := { program := "ytgkmdfjjlghecaa", sum := "65281c91a147edc428cd4cb8d667571df0d439d6a9b733e2505e4bcdc3c9ee9d", func := "loop.example/g01379/laws.FnExactFirstTeams", spec := "fnExactFirstTeams", unfollowed := true, recurses := true, apart := false }
def FnExactFirstTeamsSaid : Prop := fnExactFirstTeamsRow.holds Try.pinned (OpenSpec.ofChange fnExactFirstTeamsSpec)

/-- ITS FALSE NEIGHBOUR: 'it returns false'. Refute it at one input. -/
def fnExactFirstTeamsWrong : ChangeSpec := { name := "fnExactFirstTeams", fn := fun _ => fun
  | [d1, d2] => { results := [.lit (.bool false)], args := [d1, d2] }
  | _ => none }
def FnExactFirstTeamsWrongFalsely : Prop := fnExactFirstTeamsRow.holds Try.pinned (OpenSpec.ofChange fnExactFirstTeamsWrong)

/-- 'laws.FnExactNextRound': WHATEVER THE INPUT: true; the input reads as it did. -/
def fnExactNextRoundSpec : ChangeSpec := { name := "fnExactNextRound", fn := fun _ => fun
  | [d1, d2] => { results := [.lit (.bool true)], args := [d1, d2] }
  | _ => none }
def fnExactNextRoundRow : OpenClaim := { program := "ytgkmdfjjlghecaa", sum := "65281c91a147edc428cd4cb8d667571df0d439d6a9b733e2505e4bcdc3c9ee9d", func := "loop.example/g01379/laws.FnExactNextRound", spec := "fnExactNextRound", unfollowed := true, recurses := true, apart := false }
def FnExactNextRoundSaid : Prop := fnExactNextRoundRow.holds Try.pinned (OpenSpec.ofChange fnExactNextRoundSpec)

/-- ITS FALSE NEIGHBOUR: 'it returns false'. Refute it at one input. -/
def fnExactNextRoundWrong : ChangeSpec := { name := "fnExactNextRound", fn := fun _ => fun
  | [d1, d2] => { results := [.lit (.bool false)], args := [d1, d2] }
  | _ => none }
def FnExactNextRoundWrongFalsely : Prop := fnExactNextRoundRow.holds Try.pinned (OpenSpec.ofChange fnExactNextRoundWrong)

/-- 'laws.FnExactGridOf': WHATEVER THE INPUT: true; the input reads as it did. -/
def fnExactGridOfSpec : ChangeSpec := { name := "fnExactGridOf", fn := fun _ => fun
  | [d] => { results := [.lit (.bool true)], args := [d] }
  | _ => none }
def fnExactGridOfRow : OpenClaim := { program := "ytgkmdfjjlghecaa", sum := "65281c91a147edc428cd4cb8d667571df0d439d6a9b733e2505e4bcdc3c9ee9d", func := "loop.example/g01379/laws.FnExactGridOf", spec := "fnExactGridOf", unfollowed := true, recurses := true, apart := false }
def FnExactGridOfSaid : Prop := fnExactGridOfRow.holds Try.pinned (OpenSpec.ofChange fnExactGridOfSpec)

/-- ITS FALSE NEIGHBOUR: 'it returns false'. Refute it at one input. -/
def fnExactGridOfWrong : ChangeSpec := { name := "fnExactGridOf", fn := fun _ => fun
  | [d] => { results := [.lit (.bool false)], args := [d] }
  | _ => none }
def FnExactGridOfWrongFalsely : Prop := fnExactGridOfRow.holds Try.pinned (OpenSpec.ofChange fnExactGridOfWrong)

/-- 'laws.FnExactTidyRound': WHATEVER THE INPUT: true; the input reads as it did. -/
def fnExactTidyRoundSpec : ChangeSpec := { name := "fnExactTidyRound", fn := fun _ => fun
  | [d1, d2] => { results := [.lit (.bool true)], args := [d1, d2] }
  | _ => none }
def fnExactTidyRoundRow : OpenClaim := { program := "ytgkmdfjjlghecaa", sum := "65281c91a147edc428cd4cb8d667571df0d439d6a9b733e2505e4bcdc3c9ee9d", func := "loop.example/g01379/laws.FnExactTidyRound", spec := "fnExactTidyRound", unfollowed := true, recurses := true, apart := false }
def FnExactTidyRoundSaid : Prop := fnExactTidyRoundRow.holds Try.pinned (OpenSpec.ofChange fnExactTidyRoundSpec)

/-- ITS FALSE NEIGHBOUR: 'it returns false'. Refute it at one input. -/
def fnExactTidyRoundWrong : ChangeSpec := { name := "fnExactTidyRound", fn := fun _ => fun
  | [d1, d2] => { results := [.lit (.bool false)], args := [d1, d2] }
  | _ => none }
def FnExactTidyRoundWrongFalsely : Prop := fnExactTidyRoundRow.holds Try.pinned (OpenSpec.ofChange fnExactTidyRoundWrong)

/-- 'laws.FnTables': WHATEVER THE INPUT: true; the input reads as it did. -/
def fnTablesSpec : ChangeSpec := { name := "fnTables", fn := fun _ => fun
  | [d] => { results := [.lit (.bool true)], args := [d] }
  | _ => none }
def fnTablesRow : OpenClaim := { program := "ytgkmdfjjlghecaa", sum := "65281c91a147edc428cd4cb8d667571df0d439d6a9b733e2505e4bcdc3c9ee9d", func := "loop.example/g01379/laws.FnTables", spec := "fnTables", unfollowed := true, recurses := true, apart := false }
def FnTablesSaid : Prop := fnTablesRow.holds Try.pinned (OpenSpec.ofChange fnTablesSpec)

/-- ITS FALSE NEIGHBOUR: 'it returns false'. Refute it at one input. -/
def fnTablesWrong : ChangeSpec := { name := "fnTables", fn := fun _ => fun
  | [d] => { results := [.lit (.bool false)], args := [d] }
  | _ => none }
def FnTablesWrongFalsely : Prop := fnTablesRow.holds Try.pinned (OpenSpec.ofChange fnTablesWrong)

/-- 'laws.FnRowComplete': WHATEVER THE INPUT: true; the input reads as it did. -/
def fnRowCompleteSpec : ChangeSpec := { name := "fnRowComplete", fn := fun _ => fun
  | [d] => { results := [.lit (.bool true)], args := [d] }
  | _ => none }
def fnRowCompleteRow : OpenClaim := { program := "ytgkmdfjjlghecaa", sum := "65281c91a147edc428cd4cb8d667571df0d439d6a9b733e2505e4bcdc3c9ee9d", func := "loop.example/g01379/laws.FnRowComplete", spec := "fnRowComplete", unfollowed := true, recurses := true, apart := false }
def FnRowCompleteSaid : Prop := fnRowCompleteRow.holds Try.pinned (OpenSpec.ofChange fnRowCompleteSpec)

/-- ITS FALSE NEIGHBOUR: 'it returns false'. Refute it at one input. -/
def fnRowCompleteWrong : ChangeSpec := { name := "fnRowComplete", fn := fun _ => fun
  | [d] => { results := [.lit (.bool false)], args := [d] }
  | _ => none }
def FnRowCompleteWrongFalsely : Prop := fnRowCompleteRow.holds Try.pinned (OpenSpec.ofChange fnRowCompleteWrong)

/-- 'laws.FnResults': WHATEVER THE INPUT: true; the input reads as it did. -/
def fnResultsSpec : ChangeSpec := { name := "fnResults", fn := fun _ => fun
  | [d] => { results := [.lit (.bool true)], args := [d] }
  | _ => none }
def fnResultsRow : OpenClaim := { program := "ytgkmdfjjlghecaa", sum := "65281c91a147edc428cd4cb8d667571df0d439d6a9b733e2505e4bcdc3c9ee9d", func := "loop.example/g01379/laws.FnResults", spec := "fnResults", unfollowed := true, recurses := true, apart := false }
def FnResultsSaid : Prop := fnResultsRow.holds Try.pinned (OpenSpec.ofChange fnResultsSpec)

/-- ITS FALSE NEIGHBOUR: 'it returns false'. Refute it at one input. -/
def fnResultsWrong : ChangeSpec := { name := "fnResults", fn := fun _ => fun
  | [d] => { results := [.lit (.bool false)], args := [d] }
  | _ => none }
def FnResultsWrongFalsely : Prop := fnResultsRow.holds Try.pinned (OpenSpec.ofChange fnResultsWrong)

/- THE SECOND FORM. 'bulk': how many values and letters a reading holds, each counted each time it is reached (what is shared counts as often as it is met; a slice's spare places count too). A statement '..UptoSaid' is the law's where the arguments, and the package variables that the reading takes, are together of bulk at most 1048576: NARROWER than '..Said'. Prove '..Said' where nothing that the law and all that it calls make is longer than what came in: it says more and counts as full. Else prove '..UptoSaid'. A law counts once. -/
mutual
def uptoBulk {H : Type} : DataW H → Nat
  | .lit (.string bytes) => bytes.length + 1
  | .lit _ => 1
  | .nil => 1
  | .ptr d => uptoBulk d + 1
  | .slice elems spare => uptoBulkAll elems + uptoBulkAll spare + 1
  | .agg parts => uptoBulkAll parts + 1
  | .iface _ d => uptoBulk d + 1
  | .map entries => uptoBulkEntries entries + 1
  | .held _ => 1
def uptoBulkAll {H : Type} : List (DataW H) → Nat
  | [] => 0
  | d :: r => uptoBulk d + uptoBulkAll r
def uptoBulkEntries {H : Type} : List (Lit × DataW H) → Nat
  | [] => 0
  | x :: r => uptoBulkEntry x + uptoBulkEntries r
def uptoBulkEntry {H : Type} : Lit × DataW H → Nat
  | (.string bytes, d) => bytes.length + uptoBulk d + 1
  | (_, d) => uptoBulk d + 1
 end
def uptoSmall : (H : Type) → List (DataW H) → Bool := fun _ ds => decide (uptoBulkAll ds ≤ 1048576)
def OpenSpec.upto (s : _root_.Go.ChangeSpec) : _root_.Go.OpenSpec := { _root_.Go.OpenSpec.ofChange s with cond := some uptoSmall }

/-- 'laws.FnExactCanBeFirst', WHERE WHAT IT READS IS OF BULK AT MOST 1048576: true; the input reads as it did. -/
def fnExactCanBeFirstUptoRow : OpenClaim := { program := "ytgkmdfjjlghecaa", sum := "65281c91a147edc428cd4cb8d667571df0d439d6a9b733e2505e4bcdc3c9ee9d", func := "loop.example/g01379/laws.FnExactCanBeFirst", spec := "fnExactCanBeFirst", unfollowed := true, recurses := true, apart := false, narrowed := true }
def FnExactCanBeFirstUptoSaid : Prop := fnExactCanBeFirstUptoRow.holds Try.pinned (OpenSpec.upto fnExactCanBeFirstSpec)

/-- 'laws.FnExactFirstTeams', WHERE WHAT IT READS IS OF BULK AT MOST 1048576: true; the input reads as it did. -/
def fnExactFirstTeamsUptoRow : OpenClaim := { program := "ytgkmdfjjlghecaa", sum := "65281c91a147edc428cd4cb8d667571df0d439d6a9b733e2505e4bcdc3c9ee9d", func := "loop.example/g01379/laws.FnExactFirstTeams", spec := "fnExactFirstTeams", unfollowed := true, recurses := true, apart := false, narrowed := true }
def FnExactFirstTeamsUptoSaid : Prop := fnExactFirstTeamsUptoRow.holds Try.pinned (OpenSpec.upto fnExactFirstTeamsSpec)

/-- 'laws.FnExactNextRound', WHERE WHAT IT READS IS OF BULK AT MOST 1048576: true; the input reads as it did. -/
def fnExactNextRoundUptoRow : OpenClaim := { program := "ytgkmdfjjlghecaa", sum := "65281c91a147edc428cd4cb8d667571df0d439d6a9b733e2505e4bcdc3c9ee9d", func := "loop.example/g01379/laws.FnExactNextRound", spec := "fnExactNextRound", unfollowed := true, recurses := true, apart := false, narrowed := true }
def FnExactNextRoundUptoSaid : Prop := fnExactNextRoundUptoRow.holds Try.pinned (OpenSpec.upto fnExactNextRoundSpec)

/-- 'laws.FnExactGridOf', WHERE WHAT IT READS IS OF BULK AT MOST 1048576: true; the input reads as it did. -/
def fnExactGridOfUptoRow : OpenClaim := { program := "ytgkmdfjjlghecaa", sum := "65281c91a147edc428cd4cb8d667571df0d439d6a9b733e2505e4bcdc3c9ee9d", func := "loop.example/g01379/laws.FnExactGridOf", spec := "fnExactGridOf", unfollowed := true, recurses := true, apart := false, narrowed := true }
def FnExactGridOfUptoSaid : Prop := fnExactGridOfUptoRow.holds Try.pinned (OpenSpec.upto fnExactGridOfSpec)

/-- 'laws.FnExactTidyRound', WHERE WHAT IT READS IS OF BULK AT MOST 1048576: true; the input reads as it did. -/
def fnExactTidyRoundUptoRow : OpenClaim := { program := "ytgkmdfjjlghecaa", sum := "65281c91a147edc428cd4cb8d667571df0d439d6a9b733e2505e4bcdc3c9ee9d", func := "loop.example/g01379/laws.FnExactTidyRound", spec := "fnExactTidyRound", unfollowed := true, recurses := true, apart := false, narrowed := true }
def FnExactTidyRoundUptoSaid : Prop := fnExactTidyRoundUptoRow.holds Try.pinned (OpenSpec.upto fnExactTidyRoundSpec)

/-- 'laws.FnTables', WHERE WHAT IT READS IS OF BULK AT MOST 1048576: true; the input reads as it did. -/
def fnTablesUptoRow : OpenClaim := { program := "ytgkmdfjjlghecaa", sum := "65281c91a147edc428cd4cb8d667571df0d439d6a9b733e2505e4bcdc3c9ee9d", func := "loop.example/g01379/laws.FnTables", spec := "fnTables", unfollowed := true, recurses := true, apart := false, narrowed := true }
def FnTablesUptoSaid : Prop := fnTablesUptoRow.holds Try.pinned (OpenSpec.upto fnTablesSpec)

/-- 'laws.FnRowComplete', WHERE WHAT IT READS IS OF BULK AT MOST 1048576: true; the input reads as it did. -/
def fnRowCompleteUptoRow : OpenClaim := { program := "ytgkmdfjjlghecaa", sum := "65281c91a147edc428cd4cb8d667571df0d439d6a9b733e2505e4bcdc3c9ee9d", func := "loop.example/g01379/laws.FnRowComplete", spec := "fnRowComplete", unfollowed := true, recurses := true, apart := false, narrowed := true }
def FnRowCompleteUptoSaid : Prop := fnRowCompleteUptoRow.holds Try.pinned (OpenSpec.upto fnRowCompleteSpec)

/-- 'laws.FnResults', WHERE WHAT IT READS IS OF BULK AT MOST 1048576: true; the input reads as it did. -/
def fnResultsUptoRow : OpenClaim := { program := "ytgkmdfjjlghecaa", sum := "65281c91a147edc428cd4cb8d667571df0d439d6a9b733e2505e4bcdc3c9ee9d", func := "loop.example/g01379/laws.FnResults", spec := "fnResults", unfollowed := true, recurses := true, apart := false, narrowed := true }
def FnResultsUptoSaid : Prop := fnResultsUptoRow.holds Try.pinned (OpenSpec.upto fnResultsSpec)

end Rows
end Go.Proofs.Ytgkmdfjjlghecaa
