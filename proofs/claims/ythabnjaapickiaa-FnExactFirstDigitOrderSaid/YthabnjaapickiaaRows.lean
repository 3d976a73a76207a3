/-
  No cell of these rows narrows 'for every input' (looked for: loops, veiled, ifaces, maps, wideKeys, modest, calm, conditions, laid).
  DERIVED. THE GIVEN ROWS OF THIS SEAT. 12 by the template 'for every input the law returns true; each argument reads behind the call as it read before'; 0 by the template 'total and deterministic' (their statements: YthabnjaapickiaaTotals.lean).
  GIVEN WITH THE SEED: the statements are not yours to turn. If you find one false, say at which input.
  Laid BY PROGRAM, IN A SANDBOX (cutbox-rows.mjs): the forced cells as the released guide's own fill.sh prints them over the translation d824257e6381ed5b… (all of the seat's roots in one cut). By AI agents, Wed Nov 11 2026. No macro, syntax, notation, axiom, sorry.
-/
import Derived.Test.YthabnjaapickiaaChecked
import GoSem.Claim
import GoSem.ClaimJoined
import GoSem.ClaimMapViews
import Derived.JoinedTies
import Derived.KernelRfl
namespace Go.Proofs.Ythabnjaapickiaa
/- THE CELL 'sum', in the pinned program and in every row, IS THE sha256 OF THE DUMP (.gsa) THAT YthabnjaapickiaaProg.lean LOADS. Nothing in Lean hashes anything: it is a label: what it is worth is what the hold of that sum in a sandbox is worth. -/
noncomputable def Try.pinned : Pinned := { name := "ythabnjaapickiaa", sum := "d824257e6381ed5be1264257b9ef0369a0aff321bbb7439769937ce3d6e26394", checked := Try.checked }
namespace Rows
def none {H : Type} : Left H := { results := [], args := [] }

/-- 'laws.FnExactZigzagOf': WHATEVER THE INPUT: true; the input reads as it did. -/
def fnExactZigzagOfSpec : ChangeSpec := { name := "fnExactZigzagOf", fn := fun _ => fun
  | [d] => { results := [.lit (.bool true)], args := [d] }
  | _ => none }
def fnExactZigzagOfRow : OpenClaim := { program := "ythabnjaapickiaa", sum := "d824257e6381ed5be1264257b9ef0369a0aff321bbb7439769937ce3d6e26394", func := "loop.example/g01379/laws.FnExactZigzagOf", spec := "fnExactZigzagOf", apart := false }
def FnExactZigzagOfSaid : Prop := fnExactZigzagOfRow.holds Try.pinned (OpenSpec.ofChange fnExactZigzagOfSpec)

/-- ITS FALSE NEIGHBOUR: 'it returns false'. Refute it at one input. -/
def fnExactZigzagOfWrong : ChangeSpec := { name := "fnExactZigzagOf", fn := fun _ => fun
  | [d] => { results := [.lit (.bool false)], args := [d] }
  | _ => none }
def FnExactZigzagOfWrongFalsely : Prop := fnExactZigzagOfRow.holds Try.pinned (OpenSpec.ofChange fnExactZigzagOfWrong)

/-- 'laws.FnExactNewDesk': WHATEVER THE INPUT: true; the input reads as it did. -/
def fnExactNewDeskSpec : ChangeSpec := { name := "fnExactNewDesk", fn := fun _ => fun
  | [] => { results := [.lit (.bool true)], args := [] }
  | _ => none }
def fnExactNewDeskRow : OpenClaim := { program := "ythabnjaapickiaa", sum := "d824257e6381ed5be1264257b9ef0369a0aff321bbb7439769937ce3d6e26394", func := "loop.example/g01379/laws.FnExactNewDesk", spec := "fnExactNewDesk", apart := false }
def FnExactNewDeskSaid : Prop := fnExactNewDeskRow.holds Try.pinned (OpenSpec.ofChange fnExactNewDeskSpec)

/-- ITS FALSE NEIGHBOUR: 'it returns false'. Refute it at one input. -/
def fnExactNewDeskWrong : ChangeSpec := { name := "fnExactNewDesk", fn := fun _ => fun
  | [] => { results := [.lit (.bool false)], args := [] }
  | _ => none }
def FnExactNewDeskWrongFalsely : Prop := fnExactNewDeskRow.holds Try.pinned (OpenSpec.ofChange fnExactNewDeskWrong)

/-- 'laws.FnExactIsDesk': WHATEVER THE INPUT: true; the input reads as it did. -/
def fnExactIsDeskSpec : ChangeSpec := { name := "fnExactIsDesk", fn := fun _ => fun
  | [d] => { results := [.lit (.bool true)], args := [d] }
  | _ => none }
def fnExactIsDeskRow : OpenClaim := { program := "ythabnjaapickiaa", sum := "d824257e6381ed5be1264257b9ef0369a0aff321bbb7439769937ce3d6e26394", func := "loop.example/g01379/laws.FnExactIsDesk", spec := "fnExactIsDesk", unfollowed := true, recurses := true, apart := false }
def FnExactIsDeskSaid : Prop := fnExactIsDeskRow.holds Try.pinned (OpenSpec.ofChange fnExactIsDeskSpec)

/-- ITS FALSE NEIGHBOUR: 'it returns false'. Refute it at one input. -/
def fnExactIsDeskWrong : ChangeSpec := { name := "fnExactIsDesk", fn := fun _ => fun
  | [d] => { results := [.lit (.bool false)], args := [d] }
  | _ => none }
def FnExactIsDeskWrongFalsely : Prop := fnExactIsDeskRow.holds Try.pinned (OpenSpec.ofChange fnExactIsDeskWrong)

/-- 'laws.FnExactFirstDigitOrder': WHATEVER THE INPUT: true; the input reads as it did. -/
def fnExactFirstDigitOrderSpec : ChangeSpec := { name := "fnExactFirstDigitOrder", fn := fun _ => fun
  | [d] => { results := [.lit (.bool true)], args := [d] }
  | _ => none }
def fnExactFirstDigitOrderRow : OpenClaim := { program := "ythabnjaapickiaa", sum := "d824257e6381ed5be1264257b9ef0369a0aff321bbb7439769937ce3d6e26394", func := "loop.example/g01379/laws.FnExactFirstDigitOrder", spec := "fnExactFirstDigitOrder", unfollowed := true, recurses := true, apart := false }
def FnExactFirstDigitOrderSaid : Prop := fnExactFirstDigitOrderRow.holds Try.pinned (OpenSpec.ofChange fnExactFirstDigitOrderSpec)

/-- ITS FALSE NEIGHBOUR: 'it returns false'. Refute it at one input. -/
def fnExactFirstDigitOrderWrong : ChangeSpec := { name := "fnExactFirstDigitOrder", fn := fun _ => fun
  | [d] => { results := [.lit (.bool false)], args := [d] }
  | _ => none }
def FnExactFirstDigitOrderWrongFalsely : Prop := fnExactFirstDigitOrderRow.holds Try.pinned (OpenSpec.ofChange fnExactFirstDigitOrderWrong)

/-- 'laws.FnExactAreResults': WHATEVER THE INPUT: true; the input reads as it did. -/
def fnExactAreResultsSpec : ChangeSpec := { name := "fnExactAreResults", fn := fun _ => fun
  | [d1, d2] => { results := [.lit (.bool true)], args := [d1, d2] }
  | _ => none }
def fnExactAreResultsRow : OpenClaim := { program := "ythabnjaapickiaa", sum := "d824257e6381ed5be1264257b9ef0369a0aff321bbb7439769937ce3d6e26394", func := "loop.example/g01379/laws.FnExactAreResults", spec := "fnExactAreResults", unfollowed := true, recurses := true, apart := false }
def FnExactAreResultsSaid : Prop := fnExactAreResultsRow.holds Try.pinned (OpenSpec.ofChange fnExactAreResultsSpec)

/-- ITS FALSE NEIGHBOUR: 'it returns false'. Refute it at one input. -/
def fnExactAreResultsWrong : ChangeSpec := { name := "fnExactAreResults", fn := fun _ => fun
  | [d1, d2] => { results := [.lit (.bool false)], args := [d1, d2] }
  | _ => none }
def FnExactAreResultsWrongFalsely : Prop := fnExactAreResultsRow.holds Try.pinned (OpenSpec.ofChange fnExactAreResultsWrong)

/-- 'laws.FnExactCarryCost': WHATEVER THE INPUT: true; the input reads as it did. -/
def fnExactCarryCostSpec : ChangeSpec := { name := "fnExactCarryCost", fn := fun _ => fun
  | [d] => { results := [.lit (.bool true)], args := [d] }
  | _ => none }
def fnExactCarryCostRow : OpenClaim := { program := "ythabnjaapickiaa", sum := "d824257e6381ed5be1264257b9ef0369a0aff321bbb7439769937ce3d6e26394", func := "loop.example/g01379/laws.FnExactCarryCost", spec := "fnExactCarryCost", unfollowed := true, recurses := true, apart := false }
def FnExactCarryCostSaid : Prop := fnExactCarryCostRow.holds Try.pinned (OpenSpec.ofChange fnExactCarryCostSpec)

/-- ITS FALSE NEIGHBOUR: 'it returns false'. Refute it at one input. -/
def fnExactCarryCostWrong : ChangeSpec := { name := "fnExactCarryCost", fn := fun _ => fun
  | [d] => { results := [.lit (.bool false)], args := [d] }
  | _ => none }
def FnExactCarryCostWrongFalsely : Prop := fnExactCarryCostRow.holds Try.pinned (OpenSpec.ofChange fnExactCarryCostWrong)

/-- 'laws.FnExactIsCarryBalanced': WHATEVER THE INPUT: true; the input reads as it did. -/
def fnExactIsCarryBalancedSpec : ChangeSpec := { name := "fnExactIsCarryBalanced", fn := fun _ => fun
  | [d] => { results := [.lit (.bool true)], args := [d] }
  | _ => none }
def fnExactIsCarryBalancedRow : OpenClaim := { program := "ythabnjaapickiaa", sum := "d824257e6381ed5be1264257b9ef0369a0aff321bbb7439769937ce3d6e26394", func := "loop.example/g01379/laws.FnExactIsCarryBalanced", spec := "fnExactIsCarryBalanced", unfollowed := true, recurses := true, apart := false }
def FnExactIsCarryBalancedSaid : Prop := fnExactIsCarryBalancedRow.holds Try.pinned (OpenSpec.ofChange fnExactIsCarryBalancedSpec)

/-- ITS FALSE NEIGHBOUR: 'it returns false'. Refute it at one input. -/
def fnExactIsCarryBalancedWrong : ChangeSpec := { name := "fnExactIsCarryBalanced", fn := fun _ => fun
  | [d] => { results := [.lit (.bool false)], args := [d] }
  | _ => none }
def FnExactIsCarryBalancedWrongFalsely : Prop := fnExactIsCarryBalancedRow.holds Try.pinned (OpenSpec.ofChange fnExactIsCarryBalancedWrong)

/-- 'laws.FnExactCarryMatrix': WHATEVER THE INPUT: true; the input reads as it did. -/
def fnExactCarryMatrixSpec : ChangeSpec := { name := "fnExactCarryMatrix", fn := fun _ => fun
  | [d] => { results := [.lit (.bool true)], args := [d] }
  | _ => none }
def fnExactCarryMatrixRow : OpenClaim := { program := "ythabnjaapickiaa", sum := "d824257e6381ed5be1264257b9ef0369a0aff321bbb7439769937ce3d6e26394", func := "loop.example/g01379/laws.FnExactCarryMatrix", spec := "fnExactCarryMatrix", unfollowed := true, recurses := true, apart := false }
def FnExactCarryMatrixSaid : Prop := fnExactCarryMatrixRow.holds Try.pinned (OpenSpec.ofChange fnExactCarryMatrixSpec)

/-- ITS FALSE NEIGHBOUR: 'it returns false'. Refute it at one input. -/
def fnExactCarryMatrixWrong : ChangeSpec := { name := "fnExactCarryMatrix", fn := fun _ => fun
  | [d] => { results := [.lit (.bool false)], args := [d] }
  | _ => none }
def FnExactCarryMatrixWrongFalsely : Prop := fnExactCarryMatrixRow.holds Try.pinned (OpenSpec.ofChange fnExactCarryMatrixWrong)

/-- 'laws.FnExactPointsBetween': WHATEVER THE INPUT: true; the input reads as it did. -/
def fnExactPointsBetweenSpec : ChangeSpec := { name := "fnExactPointsBetween", fn := fun _ => fun
  | [d1, d2, d3, d4] => { results := [.lit (.bool true)], args := [d1, d2, d3, d4] }
  | _ => none }
def fnExactPointsBetweenRow : OpenClaim := { program := "ythabnjaapickiaa", sum := "d824257e6381ed5be1264257b9ef0369a0aff321bbb7439769937ce3d6e26394", func := "loop.example/g01379/laws.FnExactPointsBetween", spec := "fnExactPointsBetween", unfollowed := true, recurses := true, apart := false }
def FnExactPointsBetweenSaid : Prop := fnExactPointsBetweenRow.holds Try.pinned (OpenSpec.ofChange fnExactPointsBetweenSpec)

/-- ITS FALSE NEIGHBOUR: 'it returns false'. Refute it at one input. -/
def fnExactPointsBetweenWrong : ChangeSpec := { name := "fnExactPointsBetween", fn := fun _ => fun
  | [d1, d2, d3, d4] => { results := [.lit (.bool false)], args := [d1, d2, d3, d4] }
  | _ => none }
def FnExactPointsBetweenWrongFalsely : Prop := fnExactPointsBetweenRow.holds Try.pinned (OpenSpec.ofChange fnExactPointsBetweenWrong)

/-- 'laws.FnExactPointsOf': WHATEVER THE INPUT: true; the input reads as it did. -/
def fnExactPointsOfSpec : ChangeSpec := { name := "fnExactPointsOf", fn := fun _ => fun
  | [d1, d2] => { results := [.lit (.bool true)], args := [d1, d2] }
  | _ => none }
def fnExactPointsOfRow : OpenClaim := { program := "ythabnjaapickiaa", sum := "d824257e6381ed5be1264257b9ef0369a0aff321bbb7439769937ce3d6e26394", func := "loop.example/g01379/laws.FnExactPointsOf", spec := "fnExactPointsOf", unfollowed := true, recurses := true, apart := false }
def FnExactPointsOfSaid : Prop := fnExactPointsOfRow.holds Try.pinned (OpenSpec.ofChange fnExactPointsOfSpec)

/-- ITS FALSE NEIGHBOUR: 'it returns false'. Refute it at one input. -/
def fnExactPointsOfWrong : ChangeSpec := { name := "fnExactPointsOf", fn := fun _ => fun
  | [d1, d2] => { results := [.lit (.bool false)], args := [d1, d2] }
  | _ => none }
def FnExactPointsOfWrongFalsely : Prop := fnExactPointsOfRow.holds Try.pinned (OpenSpec.ofChange fnExactPointsOfWrong)

/-- 'laws.FnExactPointsByRound': WHATEVER THE INPUT: true; the input reads as it did. -/
def fnExactPointsByRoundSpec : ChangeSpec := { name := "fnExactPointsByRound", fn := fun _ => fun
  | [d1, d2, d3] => { results := [.lit (.bool true)], args := [d1, d2, d3] }
  | _ => none }
def fnExactPointsByRoundRow : OpenClaim := { program := "ythabnjaapickiaa", sum := "d824257e6381ed5be1264257b9ef0369a0aff321bbb7439769937ce3d6e26394", func := "loop.example/g01379/laws.FnExactPointsByRound", spec := "fnExactPointsByRound", unfollowed := true, recurses := true, apart := false }
def FnExactPointsByRoundSaid : Prop := fnExactPointsByRoundRow.holds Try.pinned (OpenSpec.ofChange fnExactPointsByRoundSpec)

/-- ITS FALSE NEIGHBOUR: 'it returns false'. Refute it at one input. -/
def fnExactPointsByRoundWrong : ChangeSpec := { name := "fnExactPointsByRound", fn := fun _ => fun
  | [d1, d2, d3] => { results := [.lit (.bool false)], args := [d1, d2, d3] }
  | _ => none }
def FnExactPointsByRoundWrongFalsely : Prop := fnExactPointsByRoundRow.holds Try.pinned (OpenSpec.ofChange fnExactPointsByRoundWrong)

/-- 'laws.FnExactSecondNumbers': WHATEVER THE INPUT: true; the input reads as it did. -/
def fnExactSecondNumbersSpec : ChangeSpec := { name := "fnExactSecondNumbers", fn := fun _ => fun
  | [d1, d2] => { results := [.lit (.bool true)], args := [d1, d2] }
  | _ => none }
def fnExactSecondNumbersRow : OpenClaim := { program := "ythabnjaapickiaa", sum := "d824257e6381ed5be1264257b9ef0369a0aff321bbb7439769937ce3d6e26394", func := "loop.example/g01379/laws.FnExactSecondNumbers", spec := "fnExactSecondNumbers", unfollowed := true, recurses := true, apart := false }
def FnExactSecondNumbersSaid : Prop := fnExactSecondNumbersRow.holds Try.pinned (OpenSpec.ofChange fnExactSecondNumbersSpec)

/-- ITS FALSE NEIGHBOUR: 'it returns false'. Refute it at one input. -/
def fnExactSecondNumbersWrong : ChangeSpec := { name := "fnExactSecondNumbers", fn := fun _ => fun
  | [d1, d2] => { results := [.lit (.bool false)], args := [d1, d2] }
  | _ => none }
def FnExactSecondNumbersWrongFalsely : Prop := fnExactSecondNumbersRow.holds Try.pinned (OpenSpec.ofChange fnExactSecondNumbersWrong)

/- THE SECOND FORM. 'bulk': how many values and letters a reading holds, each counted each time it is reached (what is shared counts as often as it is met; a slice's spare places count too). A statement '..UptoSaid' is the law's where the arguments, and the package variables that the reading takes, are together of bulk at most 1048576: NARROWER than '..Said'. Prove '..Said' where nothing that the law and all that it calls make is longer than what came in: it says more and counts as full. Else prove '..UptoSaid'. A law counts once. -/
mutual
def uptoBulk {H : Type} : DataW H → Nat
  | .lit (.string bytes) => bytes.length + 1
  | .lit _ => 1
  | .nil => 1
  | .ptr d => uptoBulk d + 1
  | .slice elems spare => uptoBulkAll elems + uptoBulkAll spare + 1
  | .agg parts => uptoBulkAll parts + 1
  | .iface _ d => uptoBulk d + 1
  | .map entries => uptoBulkEntries entries + 1
  | .held _ => 1
def uptoBulkAll {H : Type} : List (DataW H) → Nat
  | [] => 0
  | d :: r => uptoBulk d + uptoBulkAll r
def uptoBulkEntries {H : Type} : List (Lit × DataW H) → Nat
  | [] => 0
  | x :: r => uptoBulkEntry x + uptoBulkEntries r
def uptoBulkEntry {H : Type} : Lit × DataW H → Nat
  | (.string bytes, d) => bytes.length + uptoBulk d + 1
  | (_, d) => uptoBulk d + 1
 end
def uptoSmall : (H : Type) → List (DataW H) → Bool := fun _ ds => decide (uptoBulkAll ds ≤ 1048576)
def OpenSpec.upto (s : _root_.Go.ChangeSpec) : _root_.Go.OpenSpec := { _root_.Go.OpenSpec.ofChange s with cond := some uptoSmall }

/-- 'laws.FnExactZigzagOf', WHERE WHAT IT READS IS OF BULK AT MOST 1048576: true; the input reads as it did. -/
def fnExactZigzagOfUptoRow : OpenClaim := { program := "ythabnjaapickiaa", sum := "d824257e6381ed5be1264257b9ef0369a0aff321bbb7439769937ce3d6e26394", func := "loop.example/g01379/laws.FnExactZigzagOf", spec := "fnExactZigzagOf", apart := false, narrowed := true }
def FnExactZigzagOfUptoSaid : Prop := fnExactZigzagOfUptoRow.holds Try.pinned (OpenSpec.upto fnExactZigzagOfSpec)

/-- 'laws.FnExactNewDesk', WHERE WHAT IT READS IS OF BULK AT MOST 1048576: true; the input reads as it did. -/
def fnExactNewDeskUptoRow : OpenClaim := { program := "ythabnjaapickiaa", sum := "d824257e6381ed5be1264257b9ef0369a0aff321bbb7439769937ce3d6e26394", func := "loop.example/g01379/laws.FnExactNewDesk", spec := "fnExactNewDesk", apart := false, narrowed := true }
def FnExactNewDeskUptoSaid : Prop := fnExactNewDeskUptoRow.holds Try.pinned (OpenSpec.upto fnExactNewDeskSpec)

/-- 'laws.FnExactIsDesk', WHERE WHAT IT READS IS OF BULK AT MOST 1048576: true; the input reads as it did. -/
def fnExactIsDeskUptoRow : OpenClaim := { program := "ythabnjaapickiaa", sum := "d824257e6381ed5be1264257b9ef0369a0aff321bbb7439769937ce3d6e26394", func := "loop.example/g01379/laws.FnExactIsDesk", spec := "fnExactIsDesk", unfollowed := true, recurses := true, apart := false, narrowed := true }
def FnExactIsDeskUptoSaid : Prop := fnExactIsDeskUptoRow.holds Try.pinned (OpenSpec.upto fnExactIsDeskSpec)

/-- 'laws.FnExactFirstDigitOrder', WHERE WHAT IT READS IS OF BULK AT MOST 1048576: true; the input reads as it did. -/
def fnExactFirstDigitOrderUptoRow : OpenClaim := { program := "ythabnjaapickiaa", sum := "d824257e6381ed5be1264257b9ef0369a0aff321bbb7439769937ce3d6e26394", func := "loop.example/g01379/laws.FnExactFirstDigitOrder", spec := "fnExactFirstDigitOrder", unfollowed := true, recurses := true, apart := false, narrowed := true }
def FnExactFirstDigitOrderUptoSaid : Prop := fnExactFirstDigitOrderUptoRow.holds Try.pinned (OpenSpec.upto fnExactFirstDigitOrderSpec)

/-- 'laws.FnExactAreResults', WHERE WHAT IT READS IS OF BULK AT MOST 1048576: true; the input reads as it did. -/
def fnExactAreResultsUptoRow : OpenClaim := { program := "ythabnjaapickiaa", sum := "d824257e6381ed5be1264257b9ef0369a0aff321bbb7439769937ce3d6e26394", func := "loop.example/g01379/laws.FnExactAreResults", spec := "fnExactAreResults", unfollowed := true, recurses := true, apart := false, narrowed := true }
def FnExactAreResultsUptoSaid : Prop := fnExactAreResultsUptoRow.holds Try.pinned (OpenSpec.upto fnExactAreResultsSpec)

/-- 'laws.FnExactCarryCost', WHERE WHAT IT READS IS OF BULK AT MOST 1048576: true; the input reads as it did. -/
def fnExactCarryCostUptoRow : OpenClaim := { program := "ythabnjaapickiaa", sum := "d824257e6381ed5be1264257b9ef0369a0aff321bbb7439769937ce3d6e26394", func := "loop.example/g01379/laws.FnExactCarryCost", spec := "fnExactCarryCost", unfollowed := true, recurses := true, apart := false, narrowed := true }
def FnExactCarryCostUptoSaid : Prop := fnExactCarryCostUptoRow.holds Try.pinned (OpenSpec.upto fnExactCarryCostSpec)

/-- 'laws.FnExactIsCarryBalanced', WHERE WHAT IT READS IS OF BULK AT MOST 1048576: true; the input reads as it did. -/
def fnExactIsCarryBalancedUptoRow : OpenClaim := { program := "ythabnjaapickiaa", sum := "d824257e6381ed5be1264257b9ef0369a0aff321bbb7439769937ce3d6e26394", func := "loop.example/g01379/laws.FnExactIsCarryBalanced", spec := "fnExactIsCarryBalanced", unfollowed := true, recurses := true, apart := false, narrowed := true }
def FnExactIsCarryBalancedUptoSaid : Prop := fnExactIsCarryBalancedUptoRow.holds Try.pinned (OpenSpec.upto fnExactIsCarryBalancedSpec)

/-- 'laws.FnExactCarryMatrix', WHERE WHAT IT READS IS OF BULK AT MOST 1048576: true; the input reads as it did. -/
def fnExactCarryMatrixUptoRow : OpenClaim := { program := "ythabnjaapickiaa", sum := "d824257e6381ed5be1264257b9ef0369a0aff321bbb7439769937ce3d6e26394", func := "loop.example/g01379/laws.FnExactCarryMatrix", spec := "fnExactCarryMatrix", unfollowed := true, recurses := true, apart := false, narrowed := true }
def FnExactCarryMatrixUptoSaid : Prop := fnExactCarryMatrixUptoRow.holds Try.pinned (OpenSpec.upto fnExactCarryMatrixSpec)

/-- 'laws.FnExactPointsBetween', WHERE WHAT IT READS IS OF BULK AT MOST 1048576: true; the input reads as it did. -/
def fnExactPointsBetweenUptoRow : OpenClaim := { program := "ythabnjaapickiaa", sum := "d824257e6381ed5be1264257b9ef0369a0aff321bbb7439769937ce3d6e26394", func := "loop.example/g01379/laws.FnExactPointsBetween", spec := "fnExactPointsBetween", unfollowed := true, recurses := true, apart := false, narrowed := true }
def FnExactPointsBetweenUptoSaid : Prop := fnExactPointsBetweenUptoRow.holds Try.pinned (OpenSpec.upto fnExactPointsBetweenSpec)

/-- 'laws.FnExactPointsOf', WHERE WHAT IT READS IS OF BULK AT MOST 1048576: true; the input reads as it did. -/
def fnExactPointsOfUptoRow : OpenClaim := { program := "ythabnjaapickiaa", sum := "d824257e6381ed5be1264257b9ef0369a0aff321bbb7439769937ce3d6e26394", func := "loop.example/g01379/laws.FnExactPointsOf", spec := "fnExactPointsOf", unfollowed := true, recurses := true, apart := false, narrowed := true }
def FnExactPointsOfUptoSaid : Prop := fnExactPointsOfUptoRow.holds Try.pinned (OpenSpec.upto fnExactPointsOfSpec)

/-- 'laws.FnExactPointsByRound', WHERE WHAT IT READS IS OF BULK AT MOST 1048576: true; the input reads as it did. -/
def fnExactPointsByRoundUptoRow : OpenClaim := { program := "ythabnjaapickiaa", sum := "d824257e6381ed5be1264257b9ef0369a0aff321bbb7439769937ce3d6e26394", func := "loop.example/g01379/laws.FnExactPointsByRound", spec := "fnExactPointsByRound", unfollowed := true, recurses := true, apart := false, narrowed := true }
def FnExactPointsByRoundUptoSaid : Prop := fnExactPointsByRoundUptoRow.holds Try.pinned (OpenSpec.upto fnExactPointsByRoundSpec)

/-- 'laws.FnExactSecondNumbers', WHERE WHAT IT READS IS OF BULK AT MOST 1048576: true; the input reads as it did. -/
def fnExactSecondNumbersUptoRow : OpenClaim := { program := "ythabnjaapickiaa", sum := "d824257e6381ed5be1264257b9ef0369a0aff321bbb7439769937ce3d6e26394", func := "loop.example/g01379/laws.FnExactSecondNumbers", spec := "fnExactSecondNumbers", unfollowed := true, recurses := true, apart := false, narrowed := true }
def FnExactSecondNumbersUptoSaid : Prop := fnExactSecondNumbersUptoRow.holds Try.pinned (OpenSpec.upto fnExactSecondNumbersSpec)

end Rows
end Go.Proofs.Ythabnjaapickiaa
