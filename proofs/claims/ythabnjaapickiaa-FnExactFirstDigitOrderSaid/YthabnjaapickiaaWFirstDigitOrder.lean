/- The walk of the law of FirstDigitOrder. -/
import Derived.Test.YthabnjaapickiaaC21
import Derived.Test.YthabnjaapickiaaL1
import Derived.Test.YthabnjaapickiaaL3
set_option linter.unusedSimpArgs false
set_option linter.unusedVariables false
set_option maxRecDepth 100000
--LEN ints_length, List.length_replicate
namespace Go.Proofs.Ythabnjaapickiaa.A
open Go Go.Abs Go.RowKit

theorem law_FirstDigitOrder_c (a0 : Int) (H : AH) (b0 : -9223372036854775808 ≤ a0 ∧ a0 ≤ 9223372036854775807) :
    ACalls Try.prog 6 [.int .i64 a0] H (fun v _ => v = .bool true ∧ True) := by
  refine ACalls.wf (by kernel_rfl) fun hs => acalls_of_awp [.tmp 2] Try.func6 (by kernel_rfl) rfl rfl (Nat.le_of_ble_eq_true rfl) (by kernel_rfl) ?_
  try simp (disch := first | omega | (simp only [ints_length, List.length_replicate]; done) | (simp only [ints_length, List.length_replicate]; omega)) only [Sall,evalOp,init,binE,binI,unE,convE,okNil,builtE,gv,TD.isAgg,resV,↓reduceIte,Nat.reduceEqDiff,reduceCtorEq,Nat.reduceAdd,Nat.reduceMul,Nat.reduceLeDiff,quietOp,blindOp,Int.reduceEq,Int.reduceLT,Int.reduceLE,Nat.reduceLT,ti2,ti3,ti4,ti94,ti95,ti22,ti46,ti28,ti37,ti30,ti39,ti36,ti114,ti32,ti41, true_and]
  obtain ⟨H1, eH1⟩ : ∃ H1, H1 = H := ⟨_, rfl⟩
  have nx1 : H1.next = H.next + 0 := by rw [eH1]; rfl
  have U1 : Up H.next H H1 := by rw [eH1]; exact Up.refl _ H
  rw [← eH1]
  clear eH1
  have hL0 : (fdR a0).length ≤ 4294967296 := by have := fdR_length a0; omega
  refine (specFirstDigitOrder_c a0 H1 b0).ex ?_
  rintro w0 H2 ⟨up2, Fw0⟩
  have nx2 := up2.next
  have U2 : Up H.next H H2 := U1.trans up2 (by omega)
  have Ow0 := Fw0.rd.one
  try simp (disch := first | omega | (simp only [ints_length, List.length_replicate]; done) | (simp only [ints_length, List.length_replicate]; omega)) only [Sall,evalOp,init,binE,binI,unE,convE,okNil,builtE,gv,TD.isAgg,resV,↓reduceIte,Nat.reduceEqDiff,reduceCtorEq,Nat.reduceAdd,Nat.reduceMul,Nat.reduceLeDiff,quietOp,blindOp,Int.reduceEq,Int.reduceLT,Int.reduceLE,Nat.reduceLT,ti2,ti3,ti4,ti94,ti95,ti22,ti46,ti28,ti37,ti30,ti39,ti36,ti114,ti32,ti41, Ow0]
  refine (FirstDigitOrder_c a0 H2 b0).ex ?_
  rintro r0 H3 ⟨up3, Fr0⟩
  have nx3 := up3.next
  have U3 : Up H.next H H3 := U2.trans up3 (by omega)
  replace Fw0 : Fr 1 2 H1.next H2.next H3 w0 _ _ := Fw0.same fun i _ hi => up3.row i (by omega)
  have Or0 := Fr0.rd.one
  try simp (disch := first | omega | (simp only [ints_length, List.length_replicate]; done) | (simp only [ints_length, List.length_replicate]; omega)) only [Sall,evalOp,init,binE,binI,unE,convE,okNil,builtE,gv,TD.isAgg,resV,↓reduceIte,Nat.reduceEqDiff,reduceCtorEq,Nat.reduceAdd,Nat.reduceMul,Nat.reduceLeDiff,quietOp,blindOp,Int.reduceEq,Int.reduceLT,Int.reduceLE,Nat.reduceLT,ti2,ti3,ti4,ti94,ti95,ti22,ti46,ti28,ti37,ti30,ti39,ti36,ti114,ti32,ti41, Ow0, Or0]
  refine (eqInt64S_c r0 w0 _ _ _ hL0 H3 Fr0.rd Fw0.rd).to ?_
  try simp (disch := first | omega | (simp only [ints_length, List.length_replicate]; done) | (simp only [ints_length, List.length_replicate]; omega)) only [Sall,evalOp,init,binE,binI,unE,convE,okNil,builtE,gv,TD.isAgg,resV,↓reduceIte,Nat.reduceEqDiff,reduceCtorEq,Nat.reduceAdd,Nat.reduceMul,Nat.reduceLeDiff,quietOp,blindOp,Int.reduceEq,Int.reduceLT,Int.reduceLE,Nat.reduceLT,ti2,ti3,ti4,ti94,ti95,ti22,ti46,ti28,ti37,ti30,ti39,ti36,ti114,ti32,ti41, Bool.not_true, bne_self_eq_false, Ow0, Or0]
  try simp (disch := first | omega | (simp only [ints_length, List.length_replicate]; done) | (simp only [ints_length, List.length_replicate]; omega)) only [Sall,evalOp,init,binE,binI,unE,convE,okNil,builtE,gv,TD.isAgg,resV,↓reduceIte,Nat.reduceEqDiff,reduceCtorEq,Nat.reduceAdd,Nat.reduceMul,Nat.reduceLeDiff,quietOp,blindOp,Int.reduceEq,Int.reduceLT,Int.reduceLE,Nat.reduceLT,ti2,ti3,ti4,ti94,ti95,ti22,ti46,ti28,ti37,ti30,ti39,ti36,ti114,ti32,ti41, Ow0, Or0]
  refine (markInt64S_c _ H2.next H3.next r0 _ _ _ (by omega) (by omega) H3 Fr0).fin ?_
  rintro H4 ⟨nx4, sm4, KFr0⟩
  have U4 : Up H.next H H4 := ⟨by have := U3.next; omega, fun i hi => by rw [sm4 i (by omega), U3.row i hi]⟩
  replace Fw0 : Fr 1 2 H1.next H2.next H4 w0 _ _ := Fw0.same fun i _ hi => sm4 i (by omega)
  try simp (disch := first | omega | (simp only [ints_length, List.length_replicate]; done) | (simp only [ints_length, List.length_replicate]; omega)) only [Sall,evalOp,init,binE,binI,unE,convE,okNil,builtE,gv,TD.isAgg,resV,↓reduceIte,Nat.reduceEqDiff,reduceCtorEq,Nat.reduceAdd,Nat.reduceMul,Nat.reduceLeDiff,quietOp,blindOp,Int.reduceEq,Int.reduceLT,Int.reduceLE,Nat.reduceLT,ti2,ti3,ti4,ti94,ti95,ti22,ti46,ti28,ti37,ti30,ti39,ti36,ti114,ti32,ti41, Ow0, Or0]
  refine (heldInt64S_c r0 _ _ (by omega) (by omega) H4 KFr0.rd).to ?_
  try simp (disch := first | omega | (simp only [ints_length, List.length_replicate]; done) | (simp only [ints_length, List.length_replicate]; omega)) only [Sall,evalOp,init,binE,binI,unE,convE,okNil,builtE,gv,TD.isAgg,resV,↓reduceIte,Nat.reduceEqDiff,reduceCtorEq,Nat.reduceAdd,Nat.reduceMul,Nat.reduceLeDiff,quietOp,blindOp,Int.reduceEq,Int.reduceLT,Int.reduceLE,Nat.reduceLT,ti2,ti3,ti4,ti94,ti95,ti22,ti46,ti28,ti37,ti30,ti39,ti36,ti114,ti32,ti41, bne_self_eq_false, beq_self_eq_true, Bool.not_true, Ow0, Or0]
  rw [decide_eq_false (by omega)]
  try simp (disch := first | omega | (simp only [ints_length, List.length_replicate]; done) | (simp only [ints_length, List.length_replicate]; omega)) only [Sall,evalOp,init,binE,binI,unE,convE,okNil,builtE,gv,TD.isAgg,resV,↓reduceIte,Nat.reduceEqDiff,reduceCtorEq,Nat.reduceAdd,Nat.reduceMul,Nat.reduceLeDiff,quietOp,blindOp,Int.reduceEq,Int.reduceLT,Int.reduceLE,Nat.reduceLT,ti2,ti3,ti4,ti94,ti95,ti22,ti46,ti28,ti37,ti30,ti39,ti36,ti114,ti32,ti41, bne_self_eq_false, beq_self_eq_true, Bool.not_true, Ow0, Or0]
  refine (FirstDigitOrder_c a0 H4 b0).ex ?_
  rintro s0 H5 ⟨up5, Fs0⟩
  have nx5 := up5.next
  have U5 : Up H.next H H5 := U4.trans up5 (by omega)
  replace Fw0 : Fr 1 2 H1.next H2.next H5 w0 _ _ := Fw0.same fun i _ hi => up5.row i (by omega)
  replace KFr0 : Fr 1 2 H2.next H3.next H5 r0 _ _ := KFr0.same fun i _ hi => up5.row i (by omega)
  have Os0 := Fs0.rd.one
  try simp (disch := first | omega | (simp only [ints_length, List.length_replicate]; done) | (simp only [ints_length, List.length_replicate]; omega)) only [Sall,evalOp,init,binE,binI,unE,convE,okNil,builtE,gv,TD.isAgg,resV,↓reduceIte,Nat.reduceEqDiff,reduceCtorEq,Nat.reduceAdd,Nat.reduceMul,Nat.reduceLeDiff,quietOp,blindOp,Int.reduceEq,Int.reduceLT,Int.reduceLE,Nat.reduceLT,ti2,ti3,ti4,ti94,ti95,ti22,ti46,ti28,ti37,ti30,ti39,ti36,ti114,ti32,ti41, Ow0, Or0, Os0]
  refine (eqInt64S_c s0 w0 _ _ _ hL0 H5 Fs0.rd Fw0.rd).to ?_
  try simp (disch := first | omega | (simp only [ints_length, List.length_replicate]; done) | (simp only [ints_length, List.length_replicate]; omega)) only [Sall,evalOp,init,binE,binI,unE,convE,okNil,builtE,gv,TD.isAgg,resV,↓reduceIte,Nat.reduceEqDiff,reduceCtorEq,Nat.reduceAdd,Nat.reduceMul,Nat.reduceLeDiff,quietOp,blindOp,Int.reduceEq,Int.reduceLT,Int.reduceLE,Nat.reduceLT,ti2,ti3,ti4,ti94,ti95,ti22,ti46,ti28,ti37,ti30,ti39,ti36,ti114,ti32,ti41, Bool.not_true, bne_self_eq_false, Ow0, Or0, Os0]
  refine (heldInt64S_c r0 _ _ (by omega) (by omega) H5 KFr0.rd).to ?_
  try simp (disch := first | omega | (simp only [ints_length, List.length_replicate]; done) | (simp only [ints_length, List.length_replicate]; omega)) only [Sall,evalOp,init,binE,binI,unE,convE,okNil,builtE,gv,TD.isAgg,resV,↓reduceIte,Nat.reduceEqDiff,reduceCtorEq,Nat.reduceAdd,Nat.reduceMul,Nat.reduceLeDiff,quietOp,blindOp,Int.reduceEq,Int.reduceLT,Int.reduceLE,Nat.reduceLT,ti2,ti3,ti4,ti94,ti95,ti22,ti46,ti28,ti37,ti30,ti39,ti36,ti114,ti32,ti41, bne_self_eq_false, beq_self_eq_true, Bool.not_true, Ow0, Or0, Os0]
  rw [decide_eq_false (by omega)]
  try simp (disch := first | omega | (simp only [ints_length, List.length_replicate]; done) | (simp only [ints_length, List.length_replicate]; omega)) only [Sall,evalOp,init,binE,binI,unE,convE,okNil,builtE,gv,TD.isAgg,resV,↓reduceIte,Nat.reduceEqDiff,reduceCtorEq,Nat.reduceAdd,Nat.reduceMul,Nat.reduceLeDiff,quietOp,blindOp,Int.reduceEq,Int.reduceLT,Int.reduceLE,Nat.reduceLT,ti2,ti3,ti4,ti94,ti95,ti22,ti46,ti28,ti37,ti30,ti39,ti36,ti114,ti32,ti41, bne_self_eq_false, beq_self_eq_true, Bool.not_true, Ow0, Or0, Os0]
end Go.Proofs.Ythabnjaapickiaa.A
