/- Plain lists: squares with each number once in a row and in a column. No program is named here. -/
import Derived.Test.YtbmpkihggipciaaPl10
import Derived.Test.YtbmpkihggipciaaPl4
set_option linter.unusedSimpArgs false
set_option linter.unusedVariables false
namespace Go.Abs

def rowOkB (n : Nat) (r : List Int) : Bool := decide (r.length = n) && (List.range r.length).all fun j => decide (0 ≤ r.getD j 0 ∧ r.getD j 0 ≤ (n : Int) - 1)
def haveB (n : Int) (ll : List (List Int)) : Bool := decide (1 ≤ n ∧ n ≤ 14) && (decide (ll.length = n.toNat) && (List.range ll.length).all fun i => rowOkB n.toNat (ll.getD i []))
/-- The first c numbers of a column. -/
def colL (ll : List (List Int)) (i c : Nat) : List Int := (List.range c).map fun k => (ll.getD k []).getD i 0
theorem colL_succ (ll : List (List Int)) (i c : Nat) : colL ll i (c + 1) = colL ll i c ++ [(ll.getD c []).getD i 0] := by simp [colL, List.range_succ]
theorem colL_length (ll : List (List Int)) (i c : Nat) : (colL ll i c).length = c := by simp [colL]
def latAt (n : Nat) (ll : List (List Int)) (i : Nat) : Bool := ordB n (ll.getD i []) && ordB n (colL ll i n)
def latB (n : Nat) (ll : List (List Int)) : Bool := (List.range n).all fun i => latAt n ll i
theorem haveB_at {n : Int} {ll : List (List Int)} (h : haveB n ll = true) : ∃ m : Nat, n = m ∧ 1 ≤ m ∧ m ≤ 14 ∧ ll.length = m ∧ ∀ i, i < m → (ll.getD i []).length = m ∧ ∀ j, j < m → 0 ≤ (ll.getD i []).getD j 0 ∧ (ll.getD i []).getD j 0 < m := by
  unfold haveB at h
  rw [Bool.and_eq_true, Bool.and_eq_true, decide_eq_true_iff, decide_eq_true_iff, List.all_eq_true] at h
  obtain ⟨h1, h2, h3⟩ := h
  refine ⟨n.toNat, by omega, by omega, by omega, h2, fun i hi => ?_⟩
  have h4 := h3 i (by simp; omega)
  unfold rowOkB at h4
  rw [Bool.and_eq_true, decide_eq_true_iff, List.all_eq_true] at h4
  refine ⟨h4.1, fun j hj => ?_⟩
  have h5 := of_decide_eq_true (h4.2 j (by rw [h4.1]; simpa using hj))
  omega
/-- What IsSquareOf answers. -/
def sqoC (n : Int) (ll : List (List Int)) : Int := if haveB n ll = true then 0 else 2
def sqoB (n : Int) (ll : List (List Int)) : Bool := haveB n ll && latB n.toNat ll
end Go.Abs
