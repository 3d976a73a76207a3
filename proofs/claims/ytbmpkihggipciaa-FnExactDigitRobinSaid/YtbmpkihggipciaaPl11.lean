/- Plain lists: the square of a list. No program is named here. -/
import Derived.Test.YtbmpkihggipciaaPl10
set_option linter.unusedSimpArgs false
set_option linter.unusedVariables false
namespace Go.Abs

/-- One row of the square, its first c numbers written. -/
def sqE (n i : Nat) (y : List Int) (j : Nat) : Int := Int.tmod ((i : Int) + y.getD j 0) n
def sqR (n : Nat) (y : List Int) (i c : Nat) : List Int := (List.range n).map fun j => if j < c then sqE n i y j else 0
/-- The first i rows, and of the next one the first c numbers. -/
def sqM (n : Nat) (y : List Int) (i c : Nat) : List (List Int) := (List.range n).map fun a => if a < i then sqR n y a n else if a = i then sqR n y a c else List.replicate n 0
theorem sqR_length (n : Nat) (y : List Int) (i c : Nat) : (sqR n y i c).length = n := by simp [sqR]
theorem sqM_length (n : Nat) (y : List Int) (i c : Nat) : (sqM n y i c).length = n := by simp [sqM]
theorem sqR_zero (n : Nat) (y : List Int) (i : Nat) : sqR n y i 0 = List.replicate n 0 := by
  unfold sqR
  exact List.eq_replicate_iff.2 ⟨by simp, by intro b hb; obtain ⟨a, _, rfl⟩ := List.mem_map.1 hb; rfl⟩
theorem sqM_zero (n : Nat) (y : List Int) : sqM n y 0 0 = List.replicate n (List.replicate n 0) := by
  unfold sqM
  refine List.eq_replicate_iff.2 ⟨by simp, ?_⟩
  intro b hb
  obtain ⟨a, _, rfl⟩ := List.mem_map.1 hb
  rw [if_neg (by omega)]
  split
  · exact sqR_zero n y a
  · rfl
theorem sqM_next (n : Nat) (y : List Int) (i : Nat) : sqM n y i n = sqM n y (i + 1) 0 := by
  unfold sqM
  apply List.map_congr_left
  intro a _
  by_cases h1 : a < i
  · rw [if_pos h1, if_pos (by omega)]
  · rw [if_neg h1]
    by_cases h2 : a = i
    · rw [if_pos h2, if_pos (by omega)]
    · rw [if_neg h2, if_neg (by omega)]
      split
      · exact (sqR_zero n y a).symm
      · rfl
theorem sqM_all (n : Nat) (y : List Int) : sqM n y n 0 = (List.range n).map fun a => sqR n y a n := by
  unfold sqM
  apply List.map_congr_left
  intro a ha
  rw [if_pos (by simpa using ha)]
theorem sqM_getD (n : Nat) (y : List Int) (i c : Nat) (hi : i < n) : (sqM n y i c).getD i [] = sqR n y i c := by
  unfold sqM
  rw [List.getD_eq_getElem?_getD, List.getElem?_map, List.getElem?_range hi]
  simp
theorem sqR_set (n : Nat) (y : List Int) (i c : Nat) (hc : c < n) : (sqR n y i c).set c (sqE n i y c) = sqR n y i (c + 1) := by
  apply List.ext_getElem?
  intro j
  rw [List.getElem?_set, sqR_length]
  unfold sqR
  rw [List.getElem?_map, List.getElem?_map]
  by_cases hj : j < n
  · rw [List.getElem?_range hj]
    simp only [Option.map_some]
    by_cases e : c = j
    · subst e; rw [if_pos rfl, if_pos hc, if_pos (by omega)]
    · rw [if_neg e]
      by_cases h1 : j < c
      · rw [if_pos h1, if_pos (by omega)]
      · rw [if_neg h1, if_neg (by omega)]
  · rw [if_neg (by omega), List.getElem?_eq_none (by simpa using hj)]; rfl
theorem sqM_set (n : Nat) (y : List Int) (i c : Nat) (hi : i < n) (hc : c < n) : (sqM n y i c).set i (sqR n y i (c + 1)) = sqM n y i (c + 1) := by
  apply List.ext_getElem?
  intro j
  rw [List.getElem?_set, sqM_length]
  unfold sqM
  rw [List.getElem?_map, List.getElem?_map]
  by_cases hj : j < n
  · rw [List.getElem?_range hj]
    simp only [Option.map_some]
    by_cases e : i = j
    · subst e; rw [if_pos rfl, if_pos hi, if_neg (by omega), if_pos rfl]
    · rw [if_neg e]
      by_cases h1 : j < i
      · rw [if_pos h1, if_pos h1]
      · rw [if_neg h1, if_neg h1, if_neg (by omega), if_neg (by omega)]
  · rw [if_neg (by omega), List.getElem?_eq_none (by simpa using hj)]; rfl
/-- The square of a list, and its beginnings as rows are laid one behind the other. -/
def sqA (n : Nat) (y : List Int) (a : Nat) : List (List Int) := (List.range a).map fun i => sqR n y i n
def sqP (n : Nat) (y : List Int) (i c : Nat) : List Int := (List.range c).map fun j => sqE n i y j
theorem sqA_succ (n : Nat) (y : List Int) (a : Nat) : sqA n y (a + 1) = sqA n y a ++ [sqR n y a n] := by simp [sqA, List.range_succ]
theorem sqA_length (n : Nat) (y : List Int) (a : Nat) : (sqA n y a).length = a := by simp [sqA]
theorem sqP_succ (n : Nat) (y : List Int) (i c : Nat) : sqP n y i (c + 1) = sqP n y i c ++ [sqE n i y c] := by simp [sqP, List.range_succ]
theorem sqP_length (n : Nat) (y : List Int) (i c : Nat) : (sqP n y i c).length = c := by simp [sqP]
theorem sqP_all (n : Nat) (y : List Int) (i : Nat) : sqP n y i n = sqR n y i n := by
  unfold sqP sqR
  apply List.map_congr_left
  intro a ha
  rw [if_pos (by simpa using ha)]
theorem sqE_range {n i : Nat} {y : List Int} {j : Nat} (hn : 0 < n) (h : 0 ≤ y.getD j 0) : 0 ≤ sqE n i y j ∧ sqE n i y j < n := by
  unfold sqE
  rw [Int.tmod_eq_emod_of_nonneg (by omega)]
  exact ⟨Int.emod_nonneg _ (by omega), Int.emod_lt_of_pos _ (by omega)⟩
/-- A list of the numbers below another one, each once, not too long. -/
def listB (y : List Int) : Bool := decide (1 ≤ y.length ∧ y.length ≤ 14) && ordB y.length y
theorem listB_at {y : List Int} (h : listB y = true) : (1 ≤ y.length ∧ y.length ≤ 14) ∧ (∀ x ∈ y, 0 ≤ x ∧ x < y.length) ∧ y.Nodup := by
  unfold listB at h
  rw [Bool.and_eq_true, decide_eq_true_iff, ordB_iff] at h
  exact ⟨h.1, h.2.2⟩
theorem getD_in {y : List Int} {n : Nat} (h : ∀ x ∈ y, 0 ≤ x ∧ x < n) {j : Nat} (hj : j < y.length) : 0 ≤ y.getD j 0 ∧ y.getD j 0 < n :=
  h _ (by rw [List.getD_eq_getElem?_getD, List.getElem?_eq_getElem hj]; exact List.getElem_mem _)
/-- What SquareOfList answers. -/
def sqL (y : List Int) : List (List Int) := if listB y = true then sqA y.length y y.length else []
def sqC (y : List Int) : Int := if listB y = true then 0 else 2
theorem sqL_size (y : List Int) : (sqL y).length ≤ 14 ∧ True ∧ ∀ r ∈ sqL y, r.length ≤ 14 := by
  unfold sqL
  split
  · rename_i h
    have := (listB_at h).1
    rw [sqA_length]
    refine ⟨by omega, trivial, fun r hr => ?_⟩
    obtain ⟨a, _, rfl⟩ := List.mem_map.1 hr
    rw [sqR_length]; omega
  · exact ⟨by simp, trivial, by simp⟩
end Go.Abs
