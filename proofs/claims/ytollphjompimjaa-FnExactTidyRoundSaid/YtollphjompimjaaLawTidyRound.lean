/- The law FnExactTidyRound returns true: TidyRound of the program answers as the reference does, and leaves its arguments as they were. Conditions: none. -/
import Derived.Test.YtollphjompimjaaRows
import Derived.WalkKit
import Derived.ProofKit
import Derived.OpenShut
import Derived.ShutString
import Derived.ChangeOld
import Derived.Below
import Derived.Carry
import Derived.SizedLaws
import Derived.Test.YtollphjompimjaaM3
namespace Go.Proofs.Ytollphjompimjaa.fnExactTidyRound
open Go.ChangeShapes Go.WideShapes Go.ChangeAt Go.RowKit
open Go.Abs (Rd Rd2 given V1 LV VR)
set_option linter.unusedVariables false
theorem own : ownKnob Try.prog.godebug = none := by kernel_rfl
theorem laidOut : laidOutB Try.prog = true := by kernel_rfl
set_option maxRecDepth 100000 in
theorem lifted (os : Os) (started : os.Started) (H : Type) (enc : TypeId × Value → H) :
    ReturnsInHanded {} Try.checked os 4 .any (Rows.fnExactTidyRoundSpec.pre6 enc Try.prog Try.f4 Rows.fnExactTidyRoundRow.domain false) (Rows.fnExactTidyRoundSpec.post enc Try.prog Try.f4 false true false false) := by
  refine returnsInHanded_of_change_sized (C := Try.checked) own started (by kernel_rfl) Try.func4
    (ChangeSpec.witness6 (enc := enc) (C := Try.checked) false ⟨#[], #[.agg #[.int .i64 0, .int .i64 0, .slice none 0 0], .int .i64 0], []⟩ 8 (by kernel_rfl) (by kernel_rfl) (by kernel_rfl) (by kernel_rfl)) ?_
  intro W base args ds gs before hval0 hW hcnd hsz0 _
  have hval : ∀ (j : Nat) t v, Try.f4.params[j]? = some t → args[j]? = some v → Value.okWide Try.prog W .any base t v := hval0
  have hW' := hW
  obtain ⟨p, q, hA0, hV, rfl, hfz, hnd⟩ := hW
  have hA : DataW.TrodAll enc Try.prog W 0 (fun _ => true) true Try.f4.params.toList args.toList ds p := hA0
  rw [Try.params4] at hA hval
  obtain ⟨args⟩ := args
  obtain ⟨v0, vs0, d0, ds0, p0, q0, hargs0, rfl, rfl, k0, r0⟩ := trodAll_cons hA
  obtain ⟨v1, vs1, d1, ds1, p1, q1, hargs1, rfl, rfl, k1, r1⟩ := trodAll_cons r0
  obtain ⟨rfl, rfl, rfl⟩ := trodAll_nil r1
  subst hargs1
  obtain rfl : args = [v0, v1] := by simpa using hargs0
  obtain ⟨rfl, rfl⟩ := trodVars_none hV
  have ok0 := hval 0 _ v0 rfl rfl
  have ok1 := hval 1 _ v1 rfl rfl
  have lt0 : ∀ x ∈ p0, x.block < W.heap.size := fun x hx => by simpa using hW'.lt x (by simp [hx])
  have lt1 : ∀ x ∈ p1, x.block < W.heap.size := fun x hx => by simpa using hW'.lt x (by simp [hx])
  have m0 := k0
  obtain ⟨z0, w0, u0, ll0, rfl, g0, e0, b0, c0⟩ := A.open_G k0 ok0
  have m1 := k1
  obtain ⟨z1, rfl, b1⟩ := A.open_I k1 ok1
  have hl : LV id W.heap.size W [.agg #[.int .i64 z0, .int .i64 w0, u0], .int .i64 z1] [.agg #[.int .i64 z0, .int .i64 w0, u0], .int .i64 z1] := (LV.cons (Go.Abs.L1.vr (Go.Abs.L1.cons (.scal _ rfl) (Go.Abs.L1.cons (.scal _ rfl) (Go.Abs.L1.cons e0 Go.Abs.L1.nil)))) (LV.cons (VR.one (.scal _ rfl)) LV.nil))
  clear hA0 hval0 hsz0 hval
  refine (Go.Abs.law_end hl (A.law_TidyRound_c z0 w0 u0 ll0 z1 _ g0 b0 c0 b1)).mono fun e W' ⟨he, bel⟩ => ?_
  subst he
  exact ⟨_, rfl, _, _, _, [], _, [], hW', trodAll_mk1 (shut_bool Try.underlying4 _), (trodAll_cons_mk (Below.trod laidOut (by kernel_rfl) (of_decide_eq_true (by kernel_rfl)) m0 bel lt0) (trodAll_cons_mk (Below.trod laidOut (by kernel_rfl) (of_decide_eq_true (by kernel_rfl)) m1 bel lt1) trodAll_mk0)), rfl, bel.frame _, fun h => by cases h⟩
theorem over : Rows.fnExactTidyRoundRow.holds Try.pinned (OpenSpec.ofChange Rows.fnExactTidyRoundSpec) :=
  OpenClaim.holds_of_wide 4 Try.f4 rfl rfl rfl rfl rfl rfl rfl ⟨rfl, rfl, rfl, rfl, rfl⟩ rfl rfl rfl rfl rfl (by kernel_rfl) Try.func4 (by kernel_rfl)
    (of_decide_eq_true (by kernel_rfl)) (by unfold Func.isWrapper; first | (rw [if_pos (by decide +kernel)]; kernel_rfl) | (rw [if_neg (by decide +kernel)]; exact ⟨rfl, rfl⟩))
    (fun os started H enc _ => lifted os started H enc)
theorem proved : Rows.FnExactTidyRoundSaid := over
#print axioms proved
end Go.Proofs.Ytollphjompimjaa.fnExactTidyRound
namespace Go.Proofs.Ytollphjompimjaa
/-- The row, under a short name, for the claim. -/
theorem fnExactTidyRound_holds : Rows.FnExactTidyRoundSaid := fnExactTidyRound.proved
end Go.Proofs.Ytollphjompimjaa
