/- Contracts: the free round, on both sides. -/
import Derived.Test.YtbmpkihggipciaaTi
import Derived.Test.YtbmpkihggipciaaPl1
set_option linter.unusedSimpArgs false
set_option linter.unusedVariables false
set_option maxRecDepth 100000
--LEN ints_length, freeL_length, List.length_replicate
namespace Go.Proofs.Ytbmpkihggipciaa.A
open Go Go.Abs Go.RowKit

def freeL (n : Int) : List Int := (List.range 14).map fun (a : Nat) => if (a : Int) < n then (a : Int) else 0
theorem freeL_length (n : Int) : (freeL n).length = 14 := by simp [freeL]
theorem freeL_set (a : Int) (h : 0 ≤ a) (h' : a < 14) : (freeL a).set a.toNat a = freeL (a + 1) := by
  apply List.ext_getElem
  · simp [freeL]
  · intro i h1 h2
    simp only [freeL, List.getElem_set, List.getElem_map, List.getElem_range]
    split
    · rename_i e; rw [if_pos (by omega)]; omega
    · rename_i e; split <;> split <;> omega

end Go.Proofs.Ytbmpkihggipciaa.A
