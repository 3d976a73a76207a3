/- Plain lists: which orders make a digit round robin. No program is named here. -/
import Derived.Test.YtbmpkihggipciaaPl9
import Derived.Test.YtbmpkihggipciaaPl10
set_option linter.unusedSimpArgs false
set_option linter.unusedVariables false
namespace Go.Abs

def dwnL (y : List Int) : List Int := y.map fun x => x - 1
theorem dwnL_length (y : List Int) : (dwnL y).length = y.length := by simp [dwnL]
theorem dwnL_snoc (y : List Int) (i : Nat) (hi : i < y.length) : dwnL (y.take (i + 1)) = dwnL (y.take i) ++ [y.getD i 0 - 1] := by
  rw [take_snoc y 0 i hi]; simp [dwnL]
theorem dwnL_seq (m : Nat) : dwnL (seqL 1 m) = seqL 0 m := by
  unfold dwnL seqL
  rw [List.map_map]
  apply List.map_congr_left
  intro a _
  show (1 + (a : Int)) - 1 = 0 + (a : Int)
  omega
theorem upL_dwnL (y : List Int) : (dwnL y).map (fun x => x + 1) = y := by
  unfold dwnL
  rw [List.map_map]
  conv => rhs; rw [← List.map_id y]
  apply List.map_congr_left
  intro a _
  show a - 1 + 1 = a
  omega
theorem upL_seq (m : Nat) : (seqL 0 m).map (fun x => x + 1) = seqL 1 m := by
  rw [← dwnL_seq, upL_dwnL]
theorem perm_dwn (m : Nat) (y : List Int) : y.Perm (seqL 1 m) ↔ (dwnL y).Perm (seqL 0 m) := by
  constructor
  · intro h
    rw [← dwnL_seq]
    exact h.map _
  · intro h
    have h2 := h.map fun x => x + 1
    rw [upL_dwnL, upL_seq] at h2
    exact h2
def digB (n : Int) (y : List Int) : Bool := isDig n && decide (sortedL y = seqL 1 (n.toNat - 1))
theorem digB_ord (m : Nat) (y : List Int) (h : y.length = m) : decide (sortedL y = seqL 1 m) = ordB m (dwnL y) := by
  unfold ordB
  rw [dwnL_length, decide_eq_true h, Bool.true_and]
  exact decide_eq_decide.2 (by rw [sortedL_seq, sortedL_seq]; exact perm_dwn m y)
theorem digB_len (m : Nat) (y : List Int) (h : ¬ y.length = m) : decide (sortedL y = seqL 1 m) = false := by
  rw [decide_eq_false_iff_not, sortedL_seq]
  intro hp
  have := hp.length_eq
  rw [seqL_length] at this
  exact h this
theorem digB_out (m : Nat) (y : List Int) (i : Nat) (hi : i < y.length) (h : ¬ (1 ≤ y.getD i 0 ∧ y.getD i 0 ≤ (m : Int))) : decide (sortedL y = seqL 1 m) = false := by
  rw [decide_eq_false_iff_not, sortedL_seq]
  intro hp
  have hm : y.getD i 0 ∈ y := by rw [List.getD_eq_getElem?_getD, List.getElem?_eq_getElem hi]; exact List.getElem_mem _
  have := (mem_seqL_iff 1 m _).1 (hp.subset hm)
  omega
/-- What DigitRobin answers. -/
def drC (n : Int) (y : List Int) : Int := if digB n y = true then 0 else 2
def drQ (n : Int) (y : List Int) : Int := if digB n y = true then n else 0
def drK (n : Int) (y : List Int) : Nat := if digB n y = true then y.length else 0
def drL (n : Int) (y : List Int) : List Int := if digB n y = true then digL n.toNat y else []
theorem drK_le (n : Int) (y : List Int) : drK n y ≤ 16 := by
  unfold drK
  by_cases h : digB n y = true
  · rw [if_pos h]
    unfold digB at h
    rw [Bool.and_eq_true, decide_eq_true_iff] at h
    have h1 := congrArg List.length h.2
    rw [sortedL_length, seqL_length] at h1
    have h2 : n = 2 ∨ n = 4 ∨ n = 8 := of_decide_eq_true h.1
    omega
  · rw [if_neg h]; omega
end Go.Abs
