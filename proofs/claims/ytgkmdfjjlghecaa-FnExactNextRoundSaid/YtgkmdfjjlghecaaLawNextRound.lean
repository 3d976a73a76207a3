/- The law FnExactNextRound returns true: NextRound of the program answers as the reference does, and leaves its arguments as they were. Conditions: none. -/
import Derived.Test.YtgkmdfjjlghecaaRows
import Derived.WalkKit
import Derived.ProofKit
import Derived.OpenShut
import Derived.ShutString
import Derived.ChangeOld
import Derived.Below
import Derived.Carry
import Derived.SizedLaws
import Derived.Test.YtgkmdfjjlghecaaM5
namespace Go.Proofs.Ytgkmdfjjlghecaa.fnExactNextRound
open Go.ChangeShapes Go.WideShapes Go.ChangeAt Go.RowKit
open Go.Abs (Rd Rd2 given V1 LV VR)
set_option linter.unusedVariables false
theorem own : ownKnob Try.prog.godebug = none := by kernel_rfl
theorem laidOut : laidOutB Try.prog = true := by kernel_rfl
set_option maxRecDepth 100000 in
theorem lifted (os : Os) (started : os.Started) (H : Type) (enc : TypeId × Value → H) :
    ReturnsInHanded {} Try.checked os 5 .any (Rows.fnExactNextRoundSpec.pre6 enc Try.prog Try.f5 Rows.fnExactNextRoundRow.domain false) (Rows.fnExactNextRoundSpec.post enc Try.prog Try.f5 false true false false) := by
  refine returnsInHanded_of_change_sized (C := Try.checked) own started (by kernel_rfl) Try.func5
    (ChangeSpec.witness6 (enc := enc) (C := Try.checked) false ⟨#[], #[.agg #[.int .i64 0, .slice none 0 0], .slice none 0 0], []⟩ 8 (by kernel_rfl) (by kernel_rfl) (by kernel_rfl) (by kernel_rfl)) ?_
  intro W base args ds gs before hval0 hW hcnd hsz0 _
  have hval : ∀ (j : Nat) t v, Try.f5.params[j]? = some t → args[j]? = some v → Value.okWide Try.prog W .any base t v := hval0
  have hW' := hW
  obtain ⟨p, q, hA0, hV, rfl, hfz, hnd⟩ := hW
  have hA : DataW.TrodAll enc Try.prog W 0 (fun _ => true) true Try.f5.params.toList args.toList ds p := hA0
  rw [Try.params5] at hA hval
  obtain ⟨args⟩ := args
  obtain ⟨v0, vs0, d0, ds0, p0, q0, hargs0, rfl, rfl, k0, r0⟩ := trodAll_cons hA
  obtain ⟨v1, vs1, d1, ds1, p1, q1, hargs1, rfl, rfl, k1, r1⟩ := trodAll_cons r0
  obtain ⟨rfl, rfl, rfl⟩ := trodAll_nil r1
  subst hargs1
  obtain rfl : args = [v0, v1] := by simpa using hargs0
  obtain ⟨rfl, rfl⟩ := trodVars_none hV
  have ok0 := hval 0 _ v0 rfl rfl
  have ok1 := hval 1 _ v1 rfl rfl
  have lt0 : ∀ x ∈ p0, x.block < W.heap.size := fun x hx => by simpa using hW'.lt x (by simp [hx])
  have lt1 : ∀ x ∈ p1, x.block < W.heap.size := fun x hx => by simpa using hW'.lt x (by simp [hx])
  have m0 := k0
  obtain ⟨z0, u0, n0, l0, rfl, g0, e0, b0⟩ := A.open_S k0 ok0
  have m1 := k1
  obtain ⟨ll1, g1, e1, b1, c1⟩ := A.open_LL k1 ok1
  have hl : LV id W.heap.size W [.agg #[.int .i64 z0, u0], v1] [.agg #[.int .i64 z0, u0], v1] := (LV.cons (Go.Abs.L1.vr (Go.Abs.L1.cons (.scal _ rfl) (Go.Abs.L1.cons e0 Go.Abs.L1.nil))) (LV.cons (VR.one e1) LV.nil))
  clear hA0 hval0 hsz0 hval
  refine (Go.Abs.law_end hl (A.law_NextRound_c z0 u0 n0 l0 v1 ll1 _ g0 b0 g1 b1 c1)).mono fun e W' ⟨he, bel⟩ => ?_
  subst he
  exact ⟨_, rfl, _, _, _, [], _, [], hW', trodAll_mk1 (shut_bool Try.underlying4 _), (trodAll_cons_mk (Below.trod laidOut (by kernel_rfl) (of_decide_eq_true (by kernel_rfl)) m0 bel lt0) (trodAll_cons_mk (Below.trod laidOut (by kernel_rfl) (of_decide_eq_true (by kernel_rfl)) m1 bel lt1) trodAll_mk0)), rfl, bel.frame _, fun h => by cases h⟩
theorem over : Rows.fnExactNextRoundRow.holds Try.pinned (OpenSpec.ofChange Rows.fnExactNextRoundSpec) :=
  OpenClaim.holds_of_wide 5 Try.f5 rfl rfl rfl rfl rfl rfl rfl ⟨rfl, rfl, rfl, rfl, rfl⟩ rfl rfl rfl rfl rfl (by kernel_rfl) Try.func5 (by kernel_rfl)
    (of_decide_eq_true (by kernel_rfl)) (by unfold Func.isWrapper; first | (rw [if_pos (by decide +kernel)]; kernel_rfl) | (rw [if_neg (by decide +kernel)]; exact ⟨rfl, rfl⟩))
    (fun os started H enc _ => lifted os started H enc)
theorem proved : Rows.FnExactNextRoundSaid := over
#print axioms proved
end Go.Proofs.Ytgkmdfjjlghecaa.fnExactNextRound
namespace Go.Proofs.Ytgkmdfjjlghecaa
/-- The row, under a short name, for the claim. -/
theorem fnExactNextRound_holds : Rows.FnExactNextRoundSaid := fnExactNextRound.proved
end Go.Proofs.Ytgkmdfjjlghecaa
