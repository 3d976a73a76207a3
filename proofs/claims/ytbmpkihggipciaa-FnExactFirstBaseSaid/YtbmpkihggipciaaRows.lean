/-
  No cell of these rows narrows 'for every input' (looked for: loops, veiled, ifaces, maps, wideKeys, modest, calm, conditions, laid).
  DERIVED. THE GIVEN ROWS OF THIS SEAT. 12 by the template 'for every input the law returns true; each argument reads behind the call as it read before'; 0 by the template 'total and deterministic' (their statements: YtbmpkihggipciaaTotals.lean).
  GIVEN WITH THE SEED: the statements are not yours to turn. If you find one false, say at which input.
  Laid BY PROGRAM, IN A SANDBOX (cutbox-rows.mjs): the forced cells as the released guide's own fill.sh prints them over the translation e9132b9719f7fa17… (all of the seat's roots in one cut). By AI agents, Wed Nov 11 2026. No macro, syntax, notation, axiom, sorry.
-/
import Derived.Test.YtbmpkihggipciaaChecked
import GoSem.Claim
import GoSem.ClaimJoined
import GoSem.ClaimMapViews
import Derived.JoinedTies
import Derived.KernelRfl
namespace Go.Proofs.Ytbmpkihggipciaa
/- THE CELL 'sum', in the pinned program and in every row, IS THE sha256 OF THE DUMP (.gsa) THAT YtbmpkihggipciaaProg.lean LOADS. Nothing in Lean hashes anything: it is a label: what it is worth is what the hold of that sum in a sandbox is worth. -/
noncomputable def Try.pinned : Pinned := { name := "ytbmpkihggipciaa", sum := "e9132b9719f7fa1735956355780b610af7f87f706da88d42e869af48d7282814", checked := Try.checked }
namespace Rows
def none {H : Type} : Left H := { results := [], args := [] }

/-- 'laws.FnExactThirdNumbers': WHATEVER THE INPUT: true; the input reads as it did. -/
def fnExactThirdNumbersSpec : ChangeSpec := { name := "fnExactThirdNumbers", fn := fun _ => fun
  | [d1, d2] => { results := [.lit (.bool true)], args := [d1, d2] }
  | _ => none }
def fnExactThirdNumbersRow : OpenClaim := { program := "ytbmpkihggipciaa", sum := "e9132b9719f7fa1735956355780b610af7f87f706da88d42e869af48d7282814", func := "loop.example/g01379/laws.FnExactThirdNumbers", spec := "fnExactThirdNumbers", unfollowed := true, recurses := true, apart := false }
def FnExactThirdNumbersSaid : Prop := fnExactThirdNumbersRow.holds Try.pinned (OpenSpec.ofChange fnExactThirdNumbersSpec)

/-- ITS FALSE NEIGHBOUR: 'it returns false'. Refute it at one input. -/
def fnExactThirdNumbersWrong : ChangeSpec := { name := "fnExactThirdNumbers", fn := fun _ => fun
  | [d1, d2] => { results := [.lit (.bool false)], args := [d1, d2] }
  | _ => none }
def FnExactThirdNumbersWrongFalsely : Prop := fnExactThirdNumbersRow.holds Try.pinned (OpenSpec.ofChange fnExactThirdNumbersWrong)

/-- 'laws.FnExactBestOrder': WHATEVER THE INPUT: true; the input reads as it did. -/
def fnExactBestOrderSpec : ChangeSpec := { name := "fnExactBestOrder", fn := fun _ => fun
  | [d] => { results := [.lit (.bool true)], args := [d] }
  | _ => none }
def fnExactBestOrderRow : OpenClaim := { program := "ytbmpkihggipciaa", sum := "e9132b9719f7fa1735956355780b610af7f87f706da88d42e869af48d7282814", func := "loop.example/g01379/laws.FnExactBestOrder", spec := "fnExactBestOrder", unfollowed := true, recurses := true, apart := false }
def FnExactBestOrderSaid : Prop := fnExactBestOrderRow.holds Try.pinned (OpenSpec.ofChange fnExactBestOrderSpec)

/-- ITS FALSE NEIGHBOUR: 'it returns false'. Refute it at one input. -/
def fnExactBestOrderWrong : ChangeSpec := { name := "fnExactBestOrder", fn := fun _ => fun
  | [d] => { results := [.lit (.bool false)], args := [d] }
  | _ => none }
def FnExactBestOrderWrongFalsely : Prop := fnExactBestOrderRow.holds Try.pinned (OpenSpec.ofChange fnExactBestOrderWrong)

/-- 'laws.FnExactFirstBase': WHATEVER THE INPUT: true; the input reads as it did. -/
def fnExactFirstBaseSpec : ChangeSpec := { name := "fnExactFirstBase", fn := fun _ => fun
  | [d] => { results := [.lit (.bool true)], args := [d] }
  | _ => none }
def fnExactFirstBaseRow : OpenClaim := { program := "ytbmpkihggipciaa", sum := "e9132b9719f7fa1735956355780b610af7f87f706da88d42e869af48d7282814", func := "loop.example/g01379/laws.FnExactFirstBase", spec := "fnExactFirstBase", unfollowed := true, recurses := true, apart := false }
def FnExactFirstBaseSaid : Prop := fnExactFirstBaseRow.holds Try.pinned (OpenSpec.ofChange fnExactFirstBaseSpec)

/-- ITS FALSE NEIGHBOUR: 'it returns false'. Refute it at one input. -/
def fnExactFirstBaseWrong : ChangeSpec := { name := "fnExactFirstBase", fn := fun _ => fun
  | [d] => { results := [.lit (.bool false)], args := [d] }
  | _ => none }
def FnExactFirstBaseWrongFalsely : Prop := fnExactFirstBaseRow.holds Try.pinned (OpenSpec.ofChange fnExactFirstBaseWrong)

/-- 'laws.FnExactCanBeFirst': WHATEVER THE INPUT: true; the input reads as it did. -/
def fnExactCanBeFirstSpec : ChangeSpec := { name := "fnExactCanBeFirst", fn := fun _ => fun
  | [d1, d2, d3] => { results := [.lit (.bool true)], args := [d1, d2, d3] }
  | _ => none }
def fnExactCanBeFirstRow : OpenClaim := { program := "ytbmpkihggipciaa", sum := "e9132b9719f7fa1735956355780b610af7f87f706da88d42e869af48d7282814", func := "loop.example/g01379/laws.FnExactCanBeFirst", spec := "fnExactCanBeFirst", unfollowed := true, recurses := true, apart := false }
def FnExactCanBeFirstSaid : Prop := fnExactCanBeFirstRow.holds Try.pinned (OpenSpec.ofChange fnExactCanBeFirstSpec)

/-- ITS FALSE NEIGHBOUR: 'it returns false'. Refute it at one input. -/
def fnExactCanBeFirstWrong : ChangeSpec := { name := "fnExactCanBeFirst", fn := fun _ => fun
  | [d1, d2, d3] => { results := [.lit (.bool false)], args := [d1, d2, d3] }
  | _ => none }
def FnExactCanBeFirstWrongFalsely : Prop := fnExactCanBeFirstRow.holds Try.pinned (OpenSpec.ofChange fnExactCanBeFirstWrong)

/-- 'laws.FnExactFirstTeams': WHATEVER THE INPUT: true; the input reads as it did. -/
def fnExactFirstTeamsSpec : ChangeSpec := { name := "fnExactFirstTeams", fn := fun _ => fun
  | [d1, d2] => { results := [.lit (.bool true)], args := [d1, d2] }
  | _ => none }
def fnExactFirstTeamsRow : OpenClaim := { program := "ytbmpkihggipciaa", sum := "e9132b9719f7fa1735956355780b610af7f87f706da88d42e869af48d7282814", func := "loop.example/g01379/laws.FnExactFirstTeams", spec := "fnExactFirstTeams", unfollowed := true, recurses := true, apart := false }
def FnExactFirstTeamsSaid : Prop := fnExactFirstTeamsRow.holds Try.pinned (OpenSpec.ofChange fnExactFirstTeamsSpec)

/-- ITS FALSE NEIGHBOUR: 'it returns false'. Refute it at one input. -/
def fnExactFirstTeamsWrong : ChangeSpec := { name := "fnExactFirstTeams", fn := fun _ => fun
  | [d1, d2] => { results := [.lit (.bool false)], args := [d1, d2] }
  | _ => none }
def FnExactFirstTeamsWrongFalsely : Prop := fnExactFirstTeamsRow.holds Try.pinned (OpenSpec.ofChange fnExactFirstTeamsWrong)

/-- 'laws.FnExactCountStepSequences': WHATEVER THE INPUT: true; the input reads as it did. -/
def fnExactCountStepSequencesSpec : ChangeSpec := { name := "fnExactCountStepSequences", fn := fun _ => fun
  | [d] => { results := [.lit (.bool true)], args := [d] }
  | _ => none }
def fnExactCountStepSequencesRow : OpenClaim := { program := "ytbmpkihggipciaa", sum := "e9132b9719f7fa1735956355780b610af7f87f706da88d42e869af48d7282814", func := "loop.example/g01379/laws.FnExactCountStepSequences", spec := "fnExactCountStepSequences", unfollowed := true, recurses := true, apart := false }
def FnExactCountStepSequencesSaid : Prop := fnExactCountStepSequencesRow.holds Try.pinned (OpenSpec.ofChange fnExactCountStepSequencesSpec)

/-- ITS FALSE NEIGHBOUR: 'it returns false'. Refute it at one input. -/
def fnExactCountStepSequencesWrong : ChangeSpec := { name := "fnExactCountStepSequences", fn := fun _ => fun
  | [d] => { results := [.lit (.bool false)], args := [d] }
  | _ => none }
def FnExactCountStepSequencesWrongFalsely : Prop := fnExactCountStepSequencesRow.holds Try.pinned (OpenSpec.ofChange fnExactCountStepSequencesWrong)

/-- 'laws.FnExactIsStepSequence': WHATEVER THE INPUT: true; the input reads as it did. -/
def fnExactIsStepSequenceSpec : ChangeSpec := { name := "fnExactIsStepSequence", fn := fun _ => fun
  | [d] => { results := [.lit (.bool true)], args := [d] }
  | _ => none }
def fnExactIsStepSequenceRow : OpenClaim := { program := "ytbmpkihggipciaa", sum := "e9132b9719f7fa1735956355780b610af7f87f706da88d42e869af48d7282814", func := "loop.example/g01379/laws.FnExactIsStepSequence", spec := "fnExactIsStepSequence", unfollowed := true, recurses := true, apart := false }
def FnExactIsStepSequenceSaid : Prop := fnExactIsStepSequenceRow.holds Try.pinned (OpenSpec.ofChange fnExactIsStepSequenceSpec)

/-- ITS FALSE NEIGHBOUR: 'it returns false'. Refute it at one input. -/
def fnExactIsStepSequenceWrong : ChangeSpec := { name := "fnExactIsStepSequence", fn := fun _ => fun
  | [d] => { results := [.lit (.bool false)], args := [d] }
  | _ => none }
def FnExactIsStepSequenceWrongFalsely : Prop := fnExactIsStepSequenceRow.holds Try.pinned (OpenSpec.ofChange fnExactIsStepSequenceWrong)

/-- 'laws.FnExactSquareOfList': WHATEVER THE INPUT: true; the input reads as it did. -/
def fnExactSquareOfListSpec : ChangeSpec := { name := "fnExactSquareOfList", fn := fun _ => fun
  | [d] => { results := [.lit (.bool true)], args := [d] }
  | _ => none }
def fnExactSquareOfListRow : OpenClaim := { program := "ytbmpkihggipciaa", sum := "e9132b9719f7fa1735956355780b610af7f87f706da88d42e869af48d7282814", func := "loop.example/g01379/laws.FnExactSquareOfList", spec := "fnExactSquareOfList", unfollowed := true, recurses := true, apart := false }
def FnExactSquareOfListSaid : Prop := fnExactSquareOfListRow.holds Try.pinned (OpenSpec.ofChange fnExactSquareOfListSpec)

/-- ITS FALSE NEIGHBOUR: 'it returns false'. Refute it at one input. -/
def fnExactSquareOfListWrong : ChangeSpec := { name := "fnExactSquareOfList", fn := fun _ => fun
  | [d] => { results := [.lit (.bool false)], args := [d] }
  | _ => none }
def FnExactSquareOfListWrongFalsely : Prop := fnExactSquareOfListRow.holds Try.pinned (OpenSpec.ofChange fnExactSquareOfListWrong)

/-- 'laws.FnExactIsSquareOf': WHATEVER THE INPUT: true; the input reads as it did. -/
def fnExactIsSquareOfSpec : ChangeSpec := { name := "fnExactIsSquareOf", fn := fun _ => fun
  | [d1, d2] => { results := [.lit (.bool true)], args := [d1, d2] }
  | _ => none }
def fnExactIsSquareOfRow : OpenClaim := { program := "ytbmpkihggipciaa", sum := "e9132b9719f7fa1735956355780b610af7f87f706da88d42e869af48d7282814", func := "loop.example/g01379/laws.FnExactIsSquareOf", spec := "fnExactIsSquareOf", unfollowed := true, recurses := true, apart := false }
def FnExactIsSquareOfSaid : Prop := fnExactIsSquareOfRow.holds Try.pinned (OpenSpec.ofChange fnExactIsSquareOfSpec)

/-- ITS FALSE NEIGHBOUR: 'it returns false'. Refute it at one input. -/
def fnExactIsSquareOfWrong : ChangeSpec := { name := "fnExactIsSquareOf", fn := fun _ => fun
  | [d1, d2] => { results := [.lit (.bool false)], args := [d1, d2] }
  | _ => none }
def FnExactIsSquareOfWrongFalsely : Prop := fnExactIsSquareOfRow.holds Try.pinned (OpenSpec.ofChange fnExactIsSquareOfWrong)

/-- 'laws.FnExactDigitRobin': WHATEVER THE INPUT: true; the input reads as it did. -/
def fnExactDigitRobinSpec : ChangeSpec := { name := "fnExactDigitRobin", fn := fun _ => fun
  | [d1, d2] => { results := [.lit (.bool true)], args := [d1, d2] }
  | _ => none }
def fnExactDigitRobinRow : OpenClaim := { program := "ytbmpkihggipciaa", sum := "e9132b9719f7fa1735956355780b610af7f87f706da88d42e869af48d7282814", func := "loop.example/g01379/laws.FnExactDigitRobin", spec := "fnExactDigitRobin", unfollowed := true, recurses := true, apart := false }
def FnExactDigitRobinSaid : Prop := fnExactDigitRobinRow.holds Try.pinned (OpenSpec.ofChange fnExactDigitRobinSpec)

/-- ITS FALSE NEIGHBOUR: 'it returns false'. Refute it at one input. -/
def fnExactDigitRobinWrong : ChangeSpec := { name := "fnExactDigitRobin", fn := fun _ => fun
  | [d1, d2] => { results := [.lit (.bool false)], args := [d1, d2] }
  | _ => none }
def FnExactDigitRobinWrongFalsely : Prop := fnExactDigitRobinRow.holds Try.pinned (OpenSpec.ofChange fnExactDigitRobinWrong)

/-- 'laws.FnExactIsRowComplete': WHATEVER THE INPUT: true; the input reads as it did. -/
def fnExactIsRowCompleteSpec : ChangeSpec := { name := "fnExactIsRowComplete", fn := fun _ => fun
  | [d1, d2] => { results := [.lit (.bool true)], args := [d1, d2] }
  | _ => none }
def fnExactIsRowCompleteRow : OpenClaim := { program := "ytbmpkihggipciaa", sum := "e9132b9719f7fa1735956355780b610af7f87f706da88d42e869af48d7282814", func := "loop.example/g01379/laws.FnExactIsRowComplete", spec := "fnExactIsRowComplete", unfollowed := true, recurses := true, apart := false }
def FnExactIsRowCompleteSaid : Prop := fnExactIsRowCompleteRow.holds Try.pinned (OpenSpec.ofChange fnExactIsRowCompleteSpec)

/-- ITS FALSE NEIGHBOUR: 'it returns false'. Refute it at one input. -/
def fnExactIsRowCompleteWrong : ChangeSpec := { name := "fnExactIsRowComplete", fn := fun _ => fun
  | [d1, d2] => { results := [.lit (.bool false)], args := [d1, d2] }
  | _ => none }
def FnExactIsRowCompleteWrongFalsely : Prop := fnExactIsRowCompleteRow.holds Try.pinned (OpenSpec.ofChange fnExactIsRowCompleteWrong)

/-- 'laws.FnExactRankingOf': WHATEVER THE INPUT: true; the input reads as it did. -/
def fnExactRankingOfSpec : ChangeSpec := { name := "fnExactRankingOf", fn := fun _ => fun
  | [d1, d2] => { results := [.lit (.bool true)], args := [d1, d2] }
  | _ => none }
def fnExactRankingOfRow : OpenClaim := { program := "ytbmpkihggipciaa", sum := "e9132b9719f7fa1735956355780b610af7f87f706da88d42e869af48d7282814", func := "loop.example/g01379/laws.FnExactRankingOf", spec := "fnExactRankingOf", unfollowed := true, recurses := true, apart := false }
def FnExactRankingOfSaid : Prop := fnExactRankingOfRow.holds Try.pinned (OpenSpec.ofChange fnExactRankingOfSpec)

/-- ITS FALSE NEIGHBOUR: 'it returns false'. Refute it at one input. -/
def fnExactRankingOfWrong : ChangeSpec := { name := "fnExactRankingOf", fn := fun _ => fun
  | [d1, d2] => { results := [.lit (.bool false)], args := [d1, d2] }
  | _ => none }
def FnExactRankingOfWrongFalsely : Prop := fnExactRankingOfRow.holds Try.pinned (OpenSpec.ofChange fnExactRankingOfWrong)

/- THE SECOND FORM. 'bulk': how many values and letters a reading holds, each counted each time it is reached (what is shared counts as often as it is met; a slice's spare places count too). A statement '..UptoSaid' is the law's where the arguments, and the package variables that the reading takes, are together of bulk at most 1048576: NARROWER than '..Said'. Prove '..Said' where nothing that the law and all that it calls make is longer than what came in: it says more and counts as full. Else prove '..UptoSaid'. A law counts once. -/
mutual
def uptoBulk {H : Type} : DataW H → Nat
  | .lit (.string bytes) => bytes.length + 1
  | .lit _ => 1
  | .nil => 1
  | .ptr d => uptoBulk d + 1
  | .slice elems spare => uptoBulkAll elems + uptoBulkAll spare + 1
  | .agg parts => uptoBulkAll parts + 1
  | .iface _ d => uptoBulk d + 1
  | .map entries => uptoBulkEntries entries + 1
  | .held _ => 1
def uptoBulkAll {H : Type} : List (DataW H) → Nat
  | [] => 0
  | d :: r => uptoBulk d + uptoBulkAll r
def uptoBulkEntries {H : Type} : List (Lit × DataW H) → Nat
  | [] => 0
  | x :: r => uptoBulkEntry x + uptoBulkEntries r
def uptoBulkEntry {H : Type} : Lit × DataW H → Nat
  | (.string bytes, d) => bytes.length + uptoBulk d + 1
  | (_, d) => uptoBulk d + 1
 end
def uptoSmall : (H : Type) → List (DataW H) → Bool := fun _ ds => decide (uptoBulkAll ds ≤ 1048576)
def OpenSpec.upto (s : _root_.Go.ChangeSpec) : _root_.Go.OpenSpec := { _root_.Go.OpenSpec.ofChange s with cond := some uptoSmall }

/-- 'laws.FnExactThirdNumbers', WHERE WHAT IT READS IS OF BULK AT MOST 1048576: true; the input reads as it did. -/
def fnExactThirdNumbersUptoRow : OpenClaim := { program := "ytbmpkihggipciaa", sum := "e9132b9719f7fa1735956355780b610af7f87f706da88d42e869af48d7282814", func := "loop.example/g01379/laws.FnExactThirdNumbers", spec := "fnExactThirdNumbers", unfollowed := true, recurses := true, apart := false, narrowed := true }
def FnExactThirdNumbersUptoSaid : Prop := fnExactThirdNumbersUptoRow.holds Try.pinned (OpenSpec.upto fnExactThirdNumbersSpec)

/-- 'laws.FnExactBestOrder', WHERE WHAT IT READS IS OF BULK AT MOST 1048576: true; the input reads as it did. -/
def fnExactBestOrderUptoRow : OpenClaim := { program := "ytbmpkihggipciaa", sum := "e9132b9719f7fa1735956355780b610af7f87f706da88d42e869af48d7282814", func := "loop.example/g01379/laws.FnExactBestOrder", spec := "fnExactBestOrder", unfollowed := true, recurses := true, apart := false, narrowed := true }
def FnExactBestOrderUptoSaid : Prop := fnExactBestOrderUptoRow.holds Try.pinned (OpenSpec.upto fnExactBestOrderSpec)

/-- 'laws.FnExactFirstBase', WHERE WHAT IT READS IS OF BULK AT MOST 1048576: true; the input reads as it did. -/
def fnExactFirstBaseUptoRow : OpenClaim := { program := "ytbmpkihggipciaa", sum := "e9132b9719f7fa1735956355780b610af7f87f706da88d42e869af48d7282814", func := "loop.example/g01379/laws.FnExactFirstBase", spec := "fnExactFirstBase", unfollowed := true, recurses := true, apart := false, narrowed := true }
def FnExactFirstBaseUptoSaid : Prop := fnExactFirstBaseUptoRow.holds Try.pinned (OpenSpec.upto fnExactFirstBaseSpec)

/-- 'laws.FnExactCanBeFirst', WHERE WHAT IT READS IS OF BULK AT MOST 1048576: true; the input reads as it did. -/
def fnExactCanBeFirstUptoRow : OpenClaim := { program := "ytbmpkihggipciaa", sum := "e9132b9719f7fa1735956355780b610af7f87f706da88d42e869af48d7282814", func := "loop.example/g01379/laws.FnExactCanBeFirst", spec := "fnExactCanBeFirst", unfollowed := true, recurses := true, apart := false, narrowed := true }
def FnExactCanBeFirstUptoSaid : Prop := fnExactCanBeFirstUptoRow.holds Try.pinned (OpenSpec.upto fnExactCanBeFirstSpec)

/-- 'laws.FnExactFirstTeams', WHERE WHAT IT READS IS OF BULK AT MOST 1048576: true; the input reads as it did. -/
def fnExactFirstTeamsUptoRow : OpenClaim := { program := "ytbmpkihggipciaa", sum := "e9132b9719f7fa1735956355780b610af7f87f706da88d42e869af48d7282814", func := "loop.example/g01379/laws.FnExactFirstTeams", spec := "fnExactFirstTeams", unfollowed := true, recurses := true, apart := false, narrowed := true }
def FnExactFirstTeamsUptoSaid : Prop := fnExactFirstTeamsUptoRow.holds Try.pinned (OpenSpec.upto fnExactFirstTeamsSpec)

/-- 'laws.FnExactCountStepSequences', WHERE WHAT IT READS IS OF BULK AT MOST 1048576: true; the input reads as it did. -/
def fnExactCountStepSequencesUptoRow : OpenClaim := { program := "ytbmpkihggipciaa", sum := "e9132b9719f7fa1735956355780b610af7f87f706da88d42e869af48d7282814", func := "loop.example/g01379/laws.FnExactCountStepSequences", spec := "fnExactCountStepSequences", unfollowed := true, recurses := true, apart := false, narrowed := true }
def FnExactCountStepSequencesUptoSaid : Prop := fnExactCountStepSequencesUptoRow.holds Try.pinned (OpenSpec.upto fnExactCountStepSequencesSpec)

/-- 'laws.FnExactIsStepSequence', WHERE WHAT IT READS IS OF BULK AT MOST 1048576: true; the input reads as it did. -/
def fnExactIsStepSequenceUptoRow : OpenClaim := { program := "ytbmpkihggipciaa", sum := "e9132b9719f7fa1735956355780b610af7f87f706da88d42e869af48d7282814", func := "loop.example/g01379/laws.FnExactIsStepSequence", spec := "fnExactIsStepSequence", unfollowed := true, recurses := true, apart := false, narrowed := true }
def FnExactIsStepSequenceUptoSaid : Prop := fnExactIsStepSequenceUptoRow.holds Try.pinned (OpenSpec.upto fnExactIsStepSequenceSpec)

/-- 'laws.FnExactSquareOfList', WHERE WHAT IT READS IS OF BULK AT MOST 1048576: true; the input reads as it did. -/
def fnExactSquareOfListUptoRow : OpenClaim := { program := "ytbmpkihggipciaa", sum := "e9132b9719f7fa1735956355780b610af7f87f706da88d42e869af48d7282814", func := "loop.example/g01379/laws.FnExactSquareOfList", spec := "fnExactSquareOfList", unfollowed := true, recurses := true, apart := false, narrowed := true }
def FnExactSquareOfListUptoSaid : Prop := fnExactSquareOfListUptoRow.holds Try.pinned (OpenSpec.upto fnExactSquareOfListSpec)

/-- 'laws.FnExactIsSquareOf', WHERE WHAT IT READS IS OF BULK AT MOST 1048576: true; the input reads as it did. -/
def fnExactIsSquareOfUptoRow : OpenClaim := { program := "ytbmpkihggipciaa", sum := "e9132b9719f7fa1735956355780b610af7f87f706da88d42e869af48d7282814", func := "loop.example/g01379/laws.FnExactIsSquareOf", spec := "fnExactIsSquareOf", unfollowed := true, recurses := true, apart := false, narrowed := true }
def FnExactIsSquareOfUptoSaid : Prop := fnExactIsSquareOfUptoRow.holds Try.pinned (OpenSpec.upto fnExactIsSquareOfSpec)

/-- 'laws.FnExactDigitRobin', WHERE WHAT IT READS IS OF BULK AT MOST 1048576: true; the input reads as it did. -/
def fnExactDigitRobinUptoRow : OpenClaim := { program := "ytbmpkihggipciaa", sum := "e9132b9719f7fa1735956355780b610af7f87f706da88d42e869af48d7282814", func := "loop.example/g01379/laws.FnExactDigitRobin", spec := "fnExactDigitRobin", unfollowed := true, recurses := true, apart := false, narrowed := true }
def FnExactDigitRobinUptoSaid : Prop := fnExactDigitRobinUptoRow.holds Try.pinned (OpenSpec.upto fnExactDigitRobinSpec)

/-- 'laws.FnExactIsRowComplete', WHERE WHAT IT READS IS OF BULK AT MOST 1048576: true; the input reads as it did. -/
def fnExactIsRowCompleteUptoRow : OpenClaim := { program := "ytbmpkihggipciaa", sum := "e9132b9719f7fa1735956355780b610af7f87f706da88d42e869af48d7282814", func := "loop.example/g01379/laws.FnExactIsRowComplete", spec := "fnExactIsRowComplete", unfollowed := true, recurses := true, apart := false, narrowed := true }
def FnExactIsRowCompleteUptoSaid : Prop := fnExactIsRowCompleteUptoRow.holds Try.pinned (OpenSpec.upto fnExactIsRowCompleteSpec)

/-- 'laws.FnExactRankingOf', WHERE WHAT IT READS IS OF BULK AT MOST 1048576: true; the input reads as it did. -/
def fnExactRankingOfUptoRow : OpenClaim := { program := "ytbmpkihggipciaa", sum := "e9132b9719f7fa1735956355780b610af7f87f706da88d42e869af48d7282814", func := "loop.example/g01379/laws.FnExactRankingOf", spec := "fnExactRankingOf", unfollowed := true, recurses := true, apart := false, narrowed := true }
def FnExactRankingOfUptoSaid : Prop := fnExactRankingOfUptoRow.holds Try.pinned (OpenSpec.upto fnExactRankingOfSpec)

end Rows
end Go.Proofs.Ytbmpkihggipciaa
