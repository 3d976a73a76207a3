/- Contracts: PointsOf and SecondNumbers on both sides. -/
import Derived.Test.YtbmpkihggipciaaC10
set_option linter.unusedSimpArgs false
set_option linter.unusedVariables false
set_option maxRecDepth 100000
set_option maxHeartbeats 2000000
--LEN ints_length, List.length_replicate, List.length_set
namespace Go.Proofs.Ytbmpkihggipciaa.A
open Go Go.Abs Go.RowKit

theorem codeS_yes {q : Int} {k : Nat} {l : List Int} {b : Bool} (h : schedB q k l = true) (hb : b = true) : codeS q k l b = 0 := by unfold codeS; rw [if_pos h, if_pos hb]
theorem codeS_no {q : Int} {k : Nat} {l : List Int} {b : Bool} (h : ¬ (schedB q k l = true ∧ b = true)) : (codeS q k l b != 0) = true := by
  unfold codeS
  split
  · rename_i h1
    rw [if_neg (fun h2 => h ⟨h1, h2⟩)]; rfl
  · rfl
theorem fr_nil (ty lo hi : Nat) (H : AH) : Fr 1 ty lo hi H (.slice none 0 0) 0 [] := ⟨rfl, .inl ⟨rfl, rfl⟩⟩

/-- Points of all teams, if the schedule and the results are right. -/
def ptsR (q : Int) (k : Nat) (l : List Int) (ll : List (List Int)) : List Int := if schedB q k l = true ∧ resB q.toNat k l ll = true then sumsF q.toNat (fun _ o => o) (meets q.toNat l ll ll.length) else []
/-- Second or third numbers of all teams, if the schedule and the results are right. -/
def sumR (third : Bool) (q : Int) (k : Nat) (l : List Int) (ll : List (List Int)) : List Int := if schedB q k l = true ∧ resB q.toNat k l ll = true then sumsF q.toNat (sumF third (sumsF q.toNat (fun _ o => o) (meets q.toNat l ll ll.length))) (meets q.toNat l ll ll.length) else []
theorem second_sum (n : Nat) (l : List Int) (ll : List (List Int)) : sumsF n (fun b _ => (sumsF n (fun _ o => o) (meets n l ll ll.length)).getD b.toNat 0) (meets n l ll ll.length) = sumsF n (sumF false (sumsF n (fun _ o => o) (meets n l ll ll.length))) (meets n l ll ll.length) := by
  refine sumsF_congr (fun b o => ?_) _
  unfold sumF
  rw [if_neg (by simp), Int.one_mul, w64 (sumsF_range _ _ _ _)]
theorem ptsR_length (q : Int) (k : Nat) (l : List Int) (ll : List (List Int)) : (ptsR q k l ll).length ≤ 14 := by
  unfold ptsR
  split
  · rename_i h
    obtain ⟨h2, _, _⟩ := schedB_at h.1
    rw [sumsF_length]; omega
  · simp
theorem sumR_length (third : Bool) (q : Int) (k : Nat) (l : List Int) (ll : List (List Int)) : (sumR third q k l ll).length ≤ 14 := by
  unfold sumR
  split
  · rename_i h
    obtain ⟨h2, _, _⟩ := schedB_at h.1
    rw [sumsF_length]; omega
  · simp

end Go.Proofs.Ytbmpkihggipciaa.A
