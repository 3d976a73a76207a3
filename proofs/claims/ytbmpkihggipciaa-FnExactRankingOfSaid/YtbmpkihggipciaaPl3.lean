/- Plain lists: the pairs of a round, results. No program is named here. -/
import Derived.Test.YtbmpkihggipciaaAbs12
import Derived.Test.YtbmpkihggipciaaPl2
set_option linter.unusedSimpArgs false
set_option linter.unusedVariables false
namespace Go.Abs
/-- The pairs of the first k teams. -/
def pairsL (r : List Int) (k : Nat) : List (List Int) := ((List.range k).filter fun (a : Nat) => decide ((a : Int) < r.getD a 0)).map fun (a : Nat) => [(a : Int), r.getD a 0]
theorem pairsL_zero (r : List Int) : pairsL r 0 = [] := rfl
theorem pairsL_yes (r : List Int) (k : Nat) (h : (k : Int) < r.getD k 0) : pairsL r (k + 1) = pairsL r k ++ [[(k : Int), r.getD k 0]] := by
  unfold pairsL; rw [List.range_succ, List.filter_append, List.map_append]; simp [-List.getD_eq_getElem?_getD, h]
theorem pairsL_no (r : List Int) (k : Nat) (h : ¬ (k : Int) < r.getD k 0) : pairsL r (k + 1) = pairsL r k := by
  unfold pairsL; rw [List.range_succ, List.filter_append, List.map_append]; simp [-List.getD_eq_getElem?_getD, h]
theorem pairsL_le (r : List Int) (k : Nat) : (pairsL r k).length ≤ k := by
  unfold pairsL; rw [List.length_map]; exact Nat.le_trans (List.length_filter_le _ _) (by simp)

/-- One round's results are right. -/
def resAt (n : Nat) (r : List Int) (x : List Int) : Bool := (x.length == (pairsL r n).length) && (List.range x.length).all fun j => decide (0 ≤ x.getD j 0 ∧ x.getD j 0 ≤ 2)
def resB (n k : Nat) (l : List Int) (ll : List (List Int)) : Bool := decide (ll.length ≤ k) && (List.range ll.length).all fun i => resAt n (rnd l i) (ll.getD i [])
theorem resB_bad {n k : Nat} {l : List Int} {ll : List (List Int)} {i : Nat} (hi : i < ll.length) (h : resAt n (rnd l i) (ll.getD i []) = false) : resB n k l ll = false := by
  unfold resB; rw [all_false_of (p := fun i => resAt n (rnd l i) (ll.getD i [])) hi h, Bool.and_false]
theorem resB_good {n k : Nat} {l : List Int} {ll : List (List Int)} (hk : ll.length ≤ k) (h : ∀ i, i < ll.length → resAt n (rnd l i) (ll.getD i []) = true) : resB n k l ll = true := by
  unfold resB; rw [all_true_of (p := fun i => resAt n (rnd l i) (ll.getD i [])) h, Bool.and_true]; simpa using hk
theorem resAt_any (n : Nat) (r x : List Int) : resAt n r x = ((x.length == (pairsL r n).length) && !((List.range x.length).any fun j => !decide (0 ≤ x.getD j 0 ∧ x.getD j 0 ≤ 2))) := by
  unfold resAt; congr 1; rw [List.not_any_eq_all_not]; simp only [Bool.not_not]
end Go.Abs
