/- Plain lists: what stays of a sorted list when equals are struck. No program is named here. -/
import Derived.Test.YtbmpkihggipciaaPl10
import Derived.Lib.SlicesCompact
set_option linter.unusedSimpArgs false
set_option linter.unusedVariables false
namespace Go.Abs

theorem compact_len (z : List Int) (hz : z.Pairwise (fun x y => x ≤ y)) : (Go.Lib.compact z).length = z.length ↔ z.Nodup := by
  have e : (Go.Lib.compact z).length = ((List.range z.length).filter (Go.Lib.keeps z.toArray)).length := by
    unfold Go.Lib.compact Go.Lib.compactUpTo
    rw [List.length_map]
  have e2 : (Go.Lib.compact z).length = z.length ↔ ∀ j ∈ List.range z.length, Go.Lib.keeps z.toArray j = true := by
    rw [e]
    have := List.length_filter_eq_length_iff (p := Go.Lib.keeps z.toArray) (l := List.range z.length)
    rw [List.length_range] at this
    exact this
  rw [e2]
  have kp : ∀ j (h : j + 1 < z.length), Go.Lib.keeps z.toArray (j + 1) = true ↔ z[j + 1] ≠ z[j] := by
    intro j h
    unfold Go.Lib.keeps
    have h1 : z.toArray[j + 1]! = z[j + 1] := by rw [getElem!_pos _ _ (by simpa using h)]; simp
    have h2 : z.toArray[j]! = z[j] := by rw [getElem!_pos _ _ (by simp; omega)]; simp
    simp only [Nat.add_sub_cancel, h1, h2]
    simp
  constructor
  · intro h
    have hlt : z.Pairwise (fun x y => x < y) := by
      rw [List.pairwise_iff_getElem] at hz ⊢
      intro i j hi hj hij
      have h1 := (kp i (by omega)).1 (h (i + 1) (by simp; omega))
      have h2 := hz i (i + 1) hi (by omega) (by omega)
      by_cases e : i + 1 = j
      · subst e; omega
      · have h3 := hz (i + 1) j (by omega) hj (by omega)
        omega
    exact hlt.imp (by intro x y h; omega)
  · intro h j hj
    have hj' : j < z.length := by simpa using hj
    cases j with
    | zero => simp [Go.Lib.keeps]
    | succ j =>
      rw [kp j hj']
      intro e
      have := (List.getElem_inj h).1 e
      omega
theorem compact_sorted (y : List Int) : (((Go.Lib.compact (sortedL y)).length : Int) == (y.length : Int)) = decide y.Nodup := by
  rw [Bool.eq_iff_iff, beq_iff_eq, decide_eq_true_iff]
  have h := compact_len (sortedL y) (sortedL_sorted y)
  rw [sortedL_length, (sortedL_perm y).nodup_iff] at h
  rw [← h]
  omega
theorem contains_sorted (y : List Int) (x : Int) : (sortedL y).contains x = y.contains x := by
  rw [Bool.eq_iff_iff, List.contains_iff_mem, List.contains_iff_mem]
  exact (sortedL_perm y).mem_iff
/-- What IsStepSequence answers. -/
def sqnC (ok : Bool) : Int := if ok = true then 0 else 2
end Go.Abs
