/- Contracts: the circle, on both sides. -/
import Derived.Test.YtbmpkihggipciaaC1
set_option linter.unusedSimpArgs false
set_option linter.unusedVariables false
set_option maxRecDepth 100000
--LEN ints_length, List.length_replicate, cround_length, cmid_length, cset_length
namespace Go.Proofs.Ytbmpkihggipciaa.A
open Go Go.Abs Go.RowKit

/-- A fresh schedule: its rounds lie in rows of their own. -/
def FrS (q : Int) (n : Nat) (l : List Int) (H : AH) (v : Value) (H' : AH) : Prop := ∃ u, v = .agg #[.int .i64 q, u] ∧ Up H.next H H' ∧ Fr 14 80 H.next H'.next H' u n l

/-- A fresh desk of two schedules, each in rows of its own. -/
def FrD (q q' : Int) (n n' : Nat) (l l' : List Int) (H : AH) (v : Value) (H' : AH) : Prop := ∃ p : Value × Value × Nat, v = .agg #[.int .i64 q, p.1, .int .i64 q', p.2.1] ∧
  Up H.next H H' ∧ H.next ≤ p.2.2 ∧ p.2.2 ≤ H'.next ∧ Fr 14 80 H.next p.2.2 H' p.1 n l ∧ Fr 14 80 p.2.2 H'.next H' p.2.1 n' l'

end Go.Proofs.Ytbmpkihggipciaa.A
