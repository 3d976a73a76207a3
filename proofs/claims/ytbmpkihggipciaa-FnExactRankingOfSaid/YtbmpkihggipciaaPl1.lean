/- Plain lists: the rounds of a circle. No program is named here. -/
import Derived.Test.YtbmpkihggipciaaAbs9
set_option linter.unusedSimpArgs false
set_option linter.unusedVariables false
namespace Go.Abs

def oddUp (n : Nat) : Nat := n - 1 + n % 2
/-- Whom x meets in round r of a circle of m. -/
def cb (m r x : Nat) : Int := Int.tmod (2 * (r : Int) - (x : Int) + (m : Int)) (m : Int)
/-- The round, the first k teams having been looked at. -/
def cmid (n r k : Nat) : List Int := (List.range 14).map fun x => if x < oddUp n then (if x < k ∨ cb (oddUp n) r x < k then cb (oddUp n) r x else x) else if x < n then x else 0
def cset (n r k : Nat) : List Int := (List.range 14).map fun x => if x < oddUp n then (if x < k then cb (oddUp n) r x else x) else if x < n then x else 0
def cround (n r : Nat) : List Int := if n % 2 = 0 then ((cmid n r (oddUp n)).set (n - 1) r).set r ((n : Int) - 1) else cmid n r (oddUp n)

theorem cmid_length (n r k : Nat) : (cmid n r k).length = 14 := by simp [cmid]
theorem cset_length (n r k : Nat) : (cset n r k).length = 14 := by simp [cset]
theorem cround_length (n r : Nat) : (cround n r).length = 14 := by unfold cround; split <;> simp [cmid_length]

theorem cb_range : ∀ n, n < 15 → ∀ r, r < oddUp n → ∀ x, x < oddUp n → 0 ≤ cb (oddUp n) r x ∧ cb (oddUp n) r x < oddUp n := by decide +kernel
theorem cmid_zero : ∀ n, n < 15 → ∀ r, r < oddUp n → cmid n r 0 = (List.range 14).map (fun (a : Nat) => if (a : Int) < (n : Int) then (a : Int) else 0) := by decide +kernel
theorem cmid_step : ∀ n, n < 15 → ∀ r, r < oddUp n → ∀ k, k < oddUp n → (if (k : Int) < cb (oddUp n) r k then ((cmid n r k).set k (cb (oddUp n) r k)).set (cb (oddUp n) r k).toNat k else cmid n r k) = cmid n r (k + 1) := by decide +kernel
theorem cset_zero : ∀ n, n < 15 → ∀ r, r < oddUp n → cset n r 0 = (List.range 14).map (fun (a : Nat) => if (a : Int) < (n : Int) then (a : Int) else 0) := by decide +kernel
theorem cset_step : ∀ n, n < 15 → ∀ r, r < oddUp n → ∀ k, k < oddUp n → (cset n r k).set k (cb (oddUp n) r k) = cset n r (k + 1) := by decide +kernel
theorem cset_last : ∀ n, n < 15 → ∀ r, r < oddUp n → cset n r (oddUp n) = cmid n r (oddUp n) := by decide +kernel

def circleL (n k : Nat) : List Int := ((List.range k).map (cround n)).flatten
theorem circleL_length (n k : Nat) : (circleL n k).length = k * 14 := by
  induction k with
  | zero => simp [circleL]
  | succ k ih =>
    simp only [circleL, List.range_succ, List.map_append, List.map_cons, List.map_nil, List.flatten_append, List.flatten_cons, List.flatten_nil, List.append_nil, List.length_append, cround_length] at ih ⊢
    omega
theorem circleL_succ (n k : Nat) : circleL n (k + 1) = circleL n k ++ cround n k := by simp [circleL, List.range_succ]
end Go.Abs
