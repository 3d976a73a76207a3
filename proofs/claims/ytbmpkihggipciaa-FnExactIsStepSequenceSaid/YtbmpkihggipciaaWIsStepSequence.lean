/- The walk of the law of IsStepSequence. -/
import Derived.Test.YtbmpkihggipciaaC25
import Derived.Test.YtbmpkihggipciaaL1
import Derived.Test.YtbmpkihggipciaaL3
set_option linter.unusedSimpArgs false
set_option linter.unusedVariables false
set_option maxRecDepth 100000
--LEN ints_length, List.length_replicate
namespace Go.Proofs.Ytbmpkihggipciaa.A
open Go Go.Abs Go.RowKit

theorem law_IsStepSequence_c (v0 : Value) (n0 : Nat) (l0 : List Int) (H : AH) (h0 : Rd 1 H v0 n0 l0) (b0 : n0 ≤ 9223372036854775807) :
    ACalls Try.prog 9 [v0] H (fun v _ => v = .bool true ∧ True) := by
  refine ACalls.wf (by kernel_rfl) fun hs => acalls_of_awp [.tmp 2] Try.func9 (by kernel_rfl) rfl rfl (Nat.le_of_ble_eq_true rfl) (by kernel_rfl) ?_
  try simp (disch := first | omega | (simp only [ints_length, List.length_replicate]; done) | (simp only [ints_length, List.length_replicate]; omega)) only [Sall,evalOp,init,binE,binI,unE,convE,okNil,builtE,gv,TD.isAgg,resV,↓reduceIte,Nat.reduceEqDiff,reduceCtorEq,Nat.reduceAdd,Nat.reduceMul,Nat.reduceLeDiff,quietOp,blindOp,Int.reduceEq,Int.reduceLT,Int.reduceLE,Nat.reduceLT,ti2,ti3,ti4,ti79,ti80,ti28,ti25,ti31,ti22,ti33,ti24,ti67,ti111,ti100, true_and]
  obtain ⟨H1, eH1⟩ : ∃ H1, H1 = H := ⟨_, rfl⟩
  have nx1 : H1.next = H.next + 0 := by rw [eH1]; rfl
  have U1 : Up H.next H H1 := by rw [eH1]; exact Up.refl _ H
  rw [← eH1]
  clear eH1
  have ln0 := (h0.same (U1.le hs).row).len
  by_cases y0 : (1048576 : Int) < (n0 : Int)
  · try simp (disch := first | omega | (simp only [ints_length, List.length_replicate]; done) | (simp only [ints_length, List.length_replicate]; omega)) only [Sall,evalOp,init,binE,binI,unE,convE,okNil,builtE,gv,TD.isAgg,resV,↓reduceIte,Nat.reduceEqDiff,reduceCtorEq,Nat.reduceAdd,Nat.reduceMul,Nat.reduceLeDiff,quietOp,blindOp,Int.reduceEq,Int.reduceLT,Int.reduceLE,Nat.reduceLT,ti2,ti3,ti4,ti79,ti80,ti28,ti25,ti31,ti22,ti33,ti24,ti67,ti111,ti100, builtE, ln0, y0, decide_true]
  have y0' : n0 ≤ 1048576 := by omega
  try simp (disch := first | omega | (simp only [ints_length, List.length_replicate]; done) | (simp only [ints_length, List.length_replicate]; omega)) only [Sall,evalOp,init,binE,binI,unE,convE,okNil,builtE,gv,TD.isAgg,resV,↓reduceIte,Nat.reduceEqDiff,reduceCtorEq,Nat.reduceAdd,Nat.reduceMul,Nat.reduceLeDiff,quietOp,blindOp,Int.reduceEq,Int.reduceLT,Int.reduceLE,Nat.reduceLT,ti2,ti3,ti4,ti79,ti80,ti28,ti25,ti31,ti22,ti33,ti24,ti67,ti111,ti100, builtE, ln0, y0, decide_false]
  refine (toInt64S_c v0 n0 l0 H1 (h0.same (U1.le hs).row) (by omega)).to ?_
  obtain ⟨u0, et⟩ : ∃ u, u = Value.slice (some ⟨H1.next, 0, some 1⟩) n0 n0 := ⟨_, rfl⟩
  obtain ⟨H2, eh⟩ : ∃ K, K = H1.push ⟨2, true, ints l0⟩ := ⟨_, rfl⟩
  rw [← et, ← eh]
  have up2 : Up H1.next H1 H2 := by rw [eh]; exact (Up.refl _ _).push (Nat.le_refl _) _
  have Fu0 : Fr 1 2 H1.next H2.next H2 u0 n0 l0 := ⟨h0.1, .inr ⟨H1.next, Nat.le_refl _, by rw [eh]; exact Nat.lt_succ_self _, et, by rw [eh, AH.push_row, if_pos rfl]⟩⟩
  clear et eh
  have nx2 := up2.next
  have U2 : Up H.next H H2 := U1.trans up2 (by omega)
  have Ou0 := Fu0.rd.one
  try simp (disch := first | omega | (simp only [ints_length, List.length_replicate]; done) | (simp only [ints_length, List.length_replicate]; omega)) only [Sall,evalOp,init,binE,binI,unE,convE,okNil,builtE,gv,TD.isAgg,resV,↓reduceIte,Nat.reduceEqDiff,reduceCtorEq,Nat.reduceAdd,Nat.reduceMul,Nat.reduceLeDiff,quietOp,blindOp,Int.reduceEq,Int.reduceLT,Int.reduceLE,Nat.reduceLT,ti2,ti3,ti4,ti79,ti80,ti28,ti25,ti31,ti22,ti33,ti24,ti67,ti111,ti100, Ou0]
  refine (specIsStepSequence_c u0 n0 l0 H2 Fu0.rd (by omega)).to ?_
  try simp (disch := first | omega | (simp only [ints_length, List.length_replicate]; done) | (simp only [ints_length, List.length_replicate]; omega)) only [Sall,evalOp,init,binE,binI,unE,convE,okNil,builtE,gv,TD.isAgg,resV,↓reduceIte,Nat.reduceEqDiff,reduceCtorEq,Nat.reduceAdd,Nat.reduceMul,Nat.reduceLeDiff,quietOp,blindOp,Int.reduceEq,Int.reduceLT,Int.reduceLE,Nat.reduceLT,ti2,ti3,ti4,ti79,ti80,ti28,ti25,ti31,ti22,ti33,ti24,ti67,ti111,ti100, Ou0]
  refine (toInt64S_c v0 n0 l0 H2 (h0.same (U2.le hs).row) (by omega)).to ?_
  obtain ⟨g0, et⟩ : ∃ u, u = Value.slice (some ⟨H2.next, 0, some 1⟩) n0 n0 := ⟨_, rfl⟩
  obtain ⟨H3, eh⟩ : ∃ K, K = H2.push ⟨2, true, ints l0⟩ := ⟨_, rfl⟩
  rw [← et, ← eh]
  have up3 : Up H2.next H2 H3 := by rw [eh]; exact (Up.refl _ _).push (Nat.le_refl _) _
  have Fg0 : Fr 1 2 H2.next H3.next H3 g0 n0 l0 := ⟨h0.1, .inr ⟨H2.next, Nat.le_refl _, by rw [eh]; exact Nat.lt_succ_self _, et, by rw [eh, AH.push_row, if_pos rfl]⟩⟩
  clear et eh
  have nx3 := up3.next
  have U3 : Up H.next H H3 := U2.trans up3 (by omega)
  have Og0 := Fg0.rd.one
  try simp (disch := first | omega | (simp only [ints_length, List.length_replicate]; done) | (simp only [ints_length, List.length_replicate]; omega)) only [Sall,evalOp,init,binE,binI,unE,convE,okNil,builtE,gv,TD.isAgg,resV,↓reduceIte,Nat.reduceEqDiff,reduceCtorEq,Nat.reduceAdd,Nat.reduceMul,Nat.reduceLeDiff,quietOp,blindOp,Int.reduceEq,Int.reduceLT,Int.reduceLE,Nat.reduceLT,ti2,ti3,ti4,ti79,ti80,ti28,ti25,ti31,ti22,ti33,ti24,ti67,ti111,ti100, Ou0, Og0]
  refine (IsStepSequence_c g0 n0 l0 H3 Fg0.rd (by omega)).to ?_
  try simp (disch := first | omega | (simp only [ints_length, List.length_replicate]; done) | (simp only [ints_length, List.length_replicate]; omega)) only [Sall,evalOp,init,binE,binI,unE,convE,okNil,builtE,gv,TD.isAgg,resV,↓reduceIte,Nat.reduceEqDiff,reduceCtorEq,Nat.reduceAdd,Nat.reduceMul,Nat.reduceLeDiff,quietOp,blindOp,Int.reduceEq,Int.reduceLT,Int.reduceLE,Nat.reduceLT,ti2,ti3,ti4,ti79,ti80,ti28,ti25,ti31,ti22,ti33,ti24,ti67,ti111,ti100, Ou0, Og0]
  try simp (disch := first | omega | (simp only [ints_length, List.length_replicate]; done) | (simp only [ints_length, List.length_replicate]; omega)) only [Sall,evalOp,init,binE,binI,unE,convE,okNil,builtE,gv,TD.isAgg,resV,↓reduceIte,Nat.reduceEqDiff,reduceCtorEq,Nat.reduceAdd,Nat.reduceMul,Nat.reduceLeDiff,quietOp,blindOp,Int.reduceEq,Int.reduceLT,Int.reduceLE,Nat.reduceLT,ti2,ti3,ti4,ti79,ti80,ti28,ti25,ti31,ti22,ti33,ti24,ti67,ti111,ti100, bne_self_eq_false, beq_self_eq_true, Bool.not_true, Ou0, Og0]
  refine (toInt64S_c v0 n0 l0 H3 (h0.same (U3.le hs).row) (by omega)).to ?_
  obtain ⟨t0, et⟩ : ∃ u, u = Value.slice (some ⟨H3.next, 0, some 1⟩) n0 n0 := ⟨_, rfl⟩
  obtain ⟨H4, eh⟩ : ∃ K, K = H3.push ⟨2, true, ints l0⟩ := ⟨_, rfl⟩
  rw [← et, ← eh]
  have up4 : Up H3.next H3 H4 := by rw [eh]; exact (Up.refl _ _).push (Nat.le_refl _) _
  have Ft0 : Fr 1 2 H3.next H4.next H4 t0 n0 l0 := ⟨h0.1, .inr ⟨H3.next, Nat.le_refl _, by rw [eh]; exact Nat.lt_succ_self _, et, by rw [eh, AH.push_row, if_pos rfl]⟩⟩
  clear et eh
  have nx4 := up4.next
  have U4 : Up H.next H H4 := U3.trans up4 (by omega)
  replace Fg0 : Fr 1 2 H2.next H3.next H4 g0 n0 l0 := Fg0.same fun i _ hi => up4.row i (by omega)
  try simp (disch := first | omega | (simp only [ints_length, List.length_replicate]; done) | (simp only [ints_length, List.length_replicate]; omega)) only [Sall,evalOp,init,binE,binI,unE,convE,okNil,builtE,gv,TD.isAgg,resV,↓reduceIte,Nat.reduceEqDiff,reduceCtorEq,Nat.reduceAdd,Nat.reduceMul,Nat.reduceLeDiff,quietOp,blindOp,Int.reduceEq,Int.reduceLT,Int.reduceLE,Nat.reduceLT,ti2,ti3,ti4,ti79,ti80,ti28,ti25,ti31,ti22,ti33,ti24,ti67,ti111,ti100, Ou0, Og0]
  refine (eqInt64S_c g0 t0 _ _ _ (by omega) H4 Fg0.rd Ft0.rd).to ?_
  try simp (disch := first | omega | (simp only [ints_length, List.length_replicate]; done) | (simp only [ints_length, List.length_replicate]; omega)) only [Sall,evalOp,init,binE,binI,unE,convE,okNil,builtE,gv,TD.isAgg,resV,↓reduceIte,Nat.reduceEqDiff,reduceCtorEq,Nat.reduceAdd,Nat.reduceMul,Nat.reduceLeDiff,quietOp,blindOp,Int.reduceEq,Int.reduceLT,Int.reduceLE,Nat.reduceLT,ti2,ti3,ti4,ti79,ti80,ti28,ti25,ti31,ti22,ti33,ti24,ti67,ti111,ti100, Bool.not_true, Ou0, Og0]
end Go.Proofs.Ytbmpkihggipciaa.A
