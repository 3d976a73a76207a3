/- The program's ZigzagOf returns what the reference's returns, at every number: the numbers 1 to 14 one by one, by the kernel's run of the printed functions; every other number is out of range in both. No condition. -/
import Derived.Test.YthabnjaapickiaaPFnExactZigzagOfx2
namespace Go.Proofs.Ythabnjaapickiaa.Pure
open Go.RowKit Go.Proofs.Ythabnjaapickiaa.PFnExactZigzagOf Go.Proofs.YthabnjaapickiaaW.PrintWords Go.Proofs.YthabnjaapickiaaW.PrintLast

theorem zigzag_in (n : Nat) (h : n < 14) : laws_FnExactZigzagOf.f 40 ((n : Int) + 1) = some true := by
  have : ∀ m : Fin 14, laws_FnExactZigzagOf.f 40 ((m.val : Int) + 1) = some true := by decide +kernel
  exact this ⟨n, h⟩

theorem spec_out (k : Nat) (a : Int) (h : a < 1 ∨ 14 < a) : spec_ZigzagOf.f k a = some (([] : List Int), 2) := by
  unfold spec_ZigzagOf.f spec_l01In.f
  rcases h with h | h
  · rw [if_neg (by omega)]; rfl
  · rw [if_pos (by omega)]
    have : decide (a ≤ 14) = false := by simp; omega
    rw [this]; rfl

theorem impl_out (k : Nat) (a : Int) (h : a < 1 ∨ 14 < a) : impl_ZigzagOf.f k a = some (([] : List Int), 2) := by
  unfold impl_ZigzagOf.f impl_between.f
  rcases h with h | h
  · rw [if_neg (by omega)]; rfl
  · rw [if_pos (by omega)]
    have : decide (a ≤ 14) = false := by simp; omega
    rw [this]; rfl

theorem zigzag_out (a : Int) (h : a < 1 ∨ 14 < a) : laws_FnExactZigzagOf.f 40 a = some true := by
  unfold laws_FnExactZigzagOf.f
  rw [spec_out 40 a h, impl_out 40 a h]
  simp only [Option.bind_some]
  have h3 : laws_eqInt64S.f 40 [] [] = some true := by decide +kernel
  rw [h3]
  simp only [Option.bind_some, if_true]
  rw [show (40 : Nat) = 39 + 1 from rfl, laws_FnExactZigzagOf.j0]
  rw [impl_out 39 a h]
  have h4 : laws_markInt64S.f 39 [] 1 = some (1, []) := by decide +kernel
  have h5 : laws_heldInt64S.f 39 [] 1 = some 1 := by decide +kernel
  have h6 : laws_eqInt64S.f 39 [] [] = some true := by decide +kernel
  rw [h4]
  simp only [Option.bind_some]
  rw [h5, h6]
  decide +kernel

theorem FnExactZigzagOf : laws_FnExactZigzagOf.Pure := by
  intro a _
  refine ⟨40, ?_⟩
  by_cases h : a < 1 ∨ 14 < a
  · exact zigzag_out a h
  · have h0 := zigzag_in (a - 1).toNat (by omega)
    have e : (((a - 1).toNat : Int) + 1) = a := by omega
    rw [e] at h0
    exact h0

end Go.Proofs.Ythabnjaapickiaa.Pure
