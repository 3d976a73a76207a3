/- The walk of the law of SquareOfList. -/
import Derived.Test.YtbmpkihggipciaaC23
import Derived.Test.YtbmpkihggipciaaL1
import Derived.Test.YtbmpkihggipciaaL3
set_option linter.unusedSimpArgs false
set_option linter.unusedVariables false
set_option maxRecDepth 100000
--LEN ints_length, List.length_replicate
namespace Go.Proofs.Ytbmpkihggipciaa.A
open Go Go.Abs Go.RowKit

theorem law_SquareOfList_c (v0 : Value) (n0 : Nat) (l0 : List Int) (H : AH) (h0 : Rd 1 H v0 n0 l0) (b0 : n0 ≤ 9223372036854775807) :
    ACalls Try.prog 10 [v0] H (fun v _ => v = .bool true ∧ True) := by
  refine ACalls.wf (by kernel_rfl) fun hs => acalls_of_awp [.tmp 2] Try.func10 (by kernel_rfl) rfl rfl (Nat.le_of_ble_eq_true rfl) (by kernel_rfl) ?_
  try simp (disch := first | omega | (simp only [ints_length, List.length_replicate]; done) | (simp only [ints_length, List.length_replicate]; omega)) only [Sall,evalOp,init,binE,binI,unE,convE,okNil,builtE,gv,TD.isAgg,resV,↓reduceIte,Nat.reduceEqDiff,reduceCtorEq,Nat.reduceAdd,Nat.reduceMul,Nat.reduceLeDiff,quietOp,blindOp,Int.reduceEq,Int.reduceLT,Int.reduceLE,Nat.reduceLT,ti2,ti3,ti4,ti79,ti80,ti28,ti25,ti31,ti22,ti33,ti24,ti67,ti111,ti100, true_and]
  obtain ⟨H1, eH1⟩ : ∃ H1, H1 = H := ⟨_, rfl⟩
  have nx1 : H1.next = H.next + 0 := by rw [eH1]; rfl
  have U1 : Up H.next H H1 := by rw [eH1]; exact Up.refl _ H
  rw [← eH1]
  clear eH1
  have ln0 := (h0.same (U1.le hs).row).len
  by_cases y0 : (1048576 : Int) < (n0 : Int)
  · try simp (disch := first | omega | (simp only [ints_length, List.length_replicate]; done) | (simp only [ints_length, List.length_replicate]; omega)) only [Sall,evalOp,init,binE,binI,unE,convE,okNil,builtE,gv,TD.isAgg,resV,↓reduceIte,Nat.reduceEqDiff,reduceCtorEq,Nat.reduceAdd,Nat.reduceMul,Nat.reduceLeDiff,quietOp,blindOp,Int.reduceEq,Int.reduceLT,Int.reduceLE,Nat.reduceLT,ti2,ti3,ti4,ti79,ti80,ti28,ti25,ti31,ti22,ti33,ti24,ti67,ti111,ti100, builtE, ln0, y0, decide_true]
  have y0' : n0 ≤ 1048576 := by omega
  try simp (disch := first | omega | (simp only [ints_length, List.length_replicate]; done) | (simp only [ints_length, List.length_replicate]; omega)) only [Sall,evalOp,init,binE,binI,unE,convE,okNil,builtE,gv,TD.isAgg,resV,↓reduceIte,Nat.reduceEqDiff,reduceCtorEq,Nat.reduceAdd,Nat.reduceMul,Nat.reduceLeDiff,quietOp,blindOp,Int.reduceEq,Int.reduceLT,Int.reduceLE,Nat.reduceLT,ti2,ti3,ti4,ti79,ti80,ti28,ti25,ti31,ti22,ti33,ti24,ti67,ti111,ti100, builtE, ln0, y0, decide_false]
  obtain ⟨hL00, hT0, hM00⟩ := sqL_bound l0
  have hL0 : (sqL l0).length ≤ 4294967296 := by omega
  have hM0 : ∀ y ∈ (sqL l0), y.length ≤ 4294967296 := fun y hy => by have := hM00 y hy; omega
  refine (toInt64S_c v0 n0 l0 H1 (h0.same (U1.le hs).row) (by omega)).to ?_
  obtain ⟨u0, et⟩ : ∃ u, u = Value.slice (some ⟨H1.next, 0, some 1⟩) n0 n0 := ⟨_, rfl⟩
  obtain ⟨H2, eh⟩ : ∃ K, K = H1.push ⟨2, true, ints l0⟩ := ⟨_, rfl⟩
  rw [← et, ← eh]
  have up2 : Up H1.next H1 H2 := by rw [eh]; exact (Up.refl _ _).push (Nat.le_refl _) _
  have Fu0 : Fr 1 2 H1.next H2.next H2 u0 n0 l0 := ⟨h0.1, .inr ⟨H1.next, Nat.le_refl _, by rw [eh]; exact Nat.lt_succ_self _, et, by rw [eh, AH.push_row, if_pos rfl]⟩⟩
  clear et eh
  have nx2 := up2.next
  have U2 : Up H.next H H2 := U1.trans up2 (by omega)
  have Ou0 := Fu0.rd.one
  try simp (disch := first | omega | (simp only [ints_length, List.length_replicate]; done) | (simp only [ints_length, List.length_replicate]; omega)) only [Sall,evalOp,init,binE,binI,unE,convE,okNil,builtE,gv,TD.isAgg,resV,↓reduceIte,Nat.reduceEqDiff,reduceCtorEq,Nat.reduceAdd,Nat.reduceMul,Nat.reduceLeDiff,quietOp,blindOp,Int.reduceEq,Int.reduceLT,Int.reduceLE,Nat.reduceLT,ti2,ti3,ti4,ti79,ti80,ti28,ti25,ti31,ti22,ti33,ti24,ti67,ti111,ti100, Ou0]
  refine (specSquareOfList_c u0 n0 l0 H2 Fu0.rd (by omega)).ex ?_
  rintro w0 H3 ⟨up3, Fw0⟩
  have nx3 := up3.next
  have U3 : Up H.next H H3 := U2.trans up3 (by omega)
  replace Fu0 : Fr 1 2 H1.next H2.next H3 u0 n0 l0 := Fu0.same fun i _ hi => up3.row i (by omega)
  have Ow0 := Fw0.rd.one
  try simp (disch := first | omega | (simp only [ints_length, List.length_replicate]; done) | (simp only [ints_length, List.length_replicate]; omega)) only [Sall,evalOp,init,binE,binI,unE,convE,okNil,builtE,gv,TD.isAgg,resV,↓reduceIte,Nat.reduceEqDiff,reduceCtorEq,Nat.reduceAdd,Nat.reduceMul,Nat.reduceLeDiff,quietOp,blindOp,Int.reduceEq,Int.reduceLT,Int.reduceLE,Nat.reduceLT,ti2,ti3,ti4,ti79,ti80,ti28,ti25,ti31,ti22,ti33,ti24,ti67,ti111,ti100, Ou0, Ow0]
  refine (toInt64S_c v0 n0 l0 H3 (h0.same (U3.le hs).row) (by omega)).to ?_
  obtain ⟨g0, et⟩ : ∃ u, u = Value.slice (some ⟨H3.next, 0, some 1⟩) n0 n0 := ⟨_, rfl⟩
  obtain ⟨H4, eh⟩ : ∃ K, K = H3.push ⟨2, true, ints l0⟩ := ⟨_, rfl⟩
  rw [← et, ← eh]
  have up4 : Up H3.next H3 H4 := by rw [eh]; exact (Up.refl _ _).push (Nat.le_refl _) _
  have Fg0 : Fr 1 2 H3.next H4.next H4 g0 n0 l0 := ⟨h0.1, .inr ⟨H3.next, Nat.le_refl _, by rw [eh]; exact Nat.lt_succ_self _, et, by rw [eh, AH.push_row, if_pos rfl]⟩⟩
  clear et eh
  have nx4 := up4.next
  have U4 : Up H.next H H4 := U3.trans up4 (by omega)
  replace Fw0 : Fr2 1 28 2 H2.next H3.next H4 w0 _ := Fw0.same fun i _ hi => up4.row i (by omega)
  have Og0 := Fg0.rd.one
  try simp (disch := first | omega | (simp only [ints_length, List.length_replicate]; done) | (simp only [ints_length, List.length_replicate]; omega)) only [Sall,evalOp,init,binE,binI,unE,convE,okNil,builtE,gv,TD.isAgg,resV,↓reduceIte,Nat.reduceEqDiff,reduceCtorEq,Nat.reduceAdd,Nat.reduceMul,Nat.reduceLeDiff,quietOp,blindOp,Int.reduceEq,Int.reduceLT,Int.reduceLE,Nat.reduceLT,ti2,ti3,ti4,ti79,ti80,ti28,ti25,ti31,ti22,ti33,ti24,ti67,ti111,ti100, Ou0, Ow0, Og0]
  refine (SquareOfList_c g0 n0 l0 H4 Fg0.rd (by omega)).ex ?_
  rintro r0 H5 ⟨up5, Fr0⟩
  have nx5 := up5.next
  have U5 : Up H.next H H5 := U4.trans up5 (by omega)
  replace Fw0 : Fr2 1 28 2 H2.next H3.next H5 w0 _ := Fw0.same fun i _ hi => up5.row i (by omega)
  replace Fg0 : Fr 1 2 H3.next H4.next H5 g0 n0 l0 := Fg0.same fun i _ hi => up5.row i (by omega)
  have Or0 := Fr0.rd.one
  try simp (disch := first | omega | (simp only [ints_length, List.length_replicate]; done) | (simp only [ints_length, List.length_replicate]; omega)) only [Sall,evalOp,init,binE,binI,unE,convE,okNil,builtE,gv,TD.isAgg,resV,↓reduceIte,Nat.reduceEqDiff,reduceCtorEq,Nat.reduceAdd,Nat.reduceMul,Nat.reduceLeDiff,quietOp,blindOp,Int.reduceEq,Int.reduceLT,Int.reduceLE,Nat.reduceLT,ti2,ti3,ti4,ti79,ti80,ti28,ti25,ti31,ti22,ti33,ti24,ti67,ti111,ti100, Ou0, Ow0, Og0, Or0]
  refine (eqInt64SS_c r0 w0 _ hL0 hM0 H5 Fr0.rd Fw0.rd).to ?_
  try simp (disch := first | omega | (simp only [ints_length, List.length_replicate]; done) | (simp only [ints_length, List.length_replicate]; omega)) only [Sall,evalOp,init,binE,binI,unE,convE,okNil,builtE,gv,TD.isAgg,resV,↓reduceIte,Nat.reduceEqDiff,reduceCtorEq,Nat.reduceAdd,Nat.reduceMul,Nat.reduceLeDiff,quietOp,blindOp,Int.reduceEq,Int.reduceLT,Int.reduceLE,Nat.reduceLT,ti2,ti3,ti4,ti79,ti80,ti28,ti25,ti31,ti22,ti33,ti24,ti67,ti111,ti100, Bool.not_true, bne_self_eq_false, Ou0, Ow0, Og0, Or0]
  refine (toInt64S_c v0 n0 l0 H5 (h0.same (U5.le hs).row) (by omega)).to ?_
  obtain ⟨t0, et⟩ : ∃ u, u = Value.slice (some ⟨H5.next, 0, some 1⟩) n0 n0 := ⟨_, rfl⟩
  obtain ⟨H6, eh⟩ : ∃ K, K = H5.push ⟨2, true, ints l0⟩ := ⟨_, rfl⟩
  rw [← et, ← eh]
  have up6 : Up H5.next H5 H6 := by rw [eh]; exact (Up.refl _ _).push (Nat.le_refl _) _
  have Ft0 : Fr 1 2 H5.next H6.next H6 t0 n0 l0 := ⟨h0.1, .inr ⟨H5.next, Nat.le_refl _, by rw [eh]; exact Nat.lt_succ_self _, et, by rw [eh, AH.push_row, if_pos rfl]⟩⟩
  clear et eh
  have nx6 := up6.next
  have U6 : Up H.next H H6 := U5.trans up6 (by omega)
  replace Fw0 : Fr2 1 28 2 H2.next H3.next H6 w0 _ := Fw0.same fun i _ hi => up6.row i (by omega)
  replace Fg0 : Fr 1 2 H3.next H4.next H6 g0 n0 l0 := Fg0.same fun i _ hi => up6.row i (by omega)
  replace Fr0 : Fr2 1 28 2 H4.next H5.next H6 r0 _ := Fr0.same fun i _ hi => up6.row i (by omega)
  try simp (disch := first | omega | (simp only [ints_length, List.length_replicate]; done) | (simp only [ints_length, List.length_replicate]; omega)) only [Sall,evalOp,init,binE,binI,unE,convE,okNil,builtE,gv,TD.isAgg,resV,↓reduceIte,Nat.reduceEqDiff,reduceCtorEq,Nat.reduceAdd,Nat.reduceMul,Nat.reduceLeDiff,quietOp,blindOp,Int.reduceEq,Int.reduceLT,Int.reduceLE,Nat.reduceLT,ti2,ti3,ti4,ti79,ti80,ti28,ti25,ti31,ti22,ti33,ti24,ti67,ti111,ti100, Ou0, Ow0, Og0, Or0]
  refine (eqInt64S_c g0 t0 _ _ _ (by omega) H6 Fg0.rd Ft0.rd).to ?_
  try simp (disch := first | omega | (simp only [ints_length, List.length_replicate]; done) | (simp only [ints_length, List.length_replicate]; omega)) only [Sall,evalOp,init,binE,binI,unE,convE,okNil,builtE,gv,TD.isAgg,resV,↓reduceIte,Nat.reduceEqDiff,reduceCtorEq,Nat.reduceAdd,Nat.reduceMul,Nat.reduceLeDiff,quietOp,blindOp,Int.reduceEq,Int.reduceLT,Int.reduceLE,Nat.reduceLT,ti2,ti3,ti4,ti79,ti80,ti28,ti25,ti31,ti22,ti33,ti24,ti67,ti111,ti100, Bool.not_true, Ou0, Ow0, Og0, Or0]
  try simp (disch := first | omega | (simp only [ints_length, List.length_replicate]; done) | (simp only [ints_length, List.length_replicate]; omega)) only [Sall,evalOp,init,binE,binI,unE,convE,okNil,builtE,gv,TD.isAgg,resV,↓reduceIte,Nat.reduceEqDiff,reduceCtorEq,Nat.reduceAdd,Nat.reduceMul,Nat.reduceLeDiff,quietOp,blindOp,Int.reduceEq,Int.reduceLT,Int.reduceLE,Nat.reduceLT,ti2,ti3,ti4,ti79,ti80,ti28,ti25,ti31,ti22,ti33,ti24,ti67,ti111,ti100, Ou0, Ow0, Og0, Or0]
  refine (markInt64S_c _ H3.next H4.next g0 _ _ _ (by omega) (by omega) H6 Fg0).fin ?_
  rintro H7 ⟨nx7, sm7, KFg0⟩
  have U7 : Up H.next H H7 := ⟨by have := U6.next; omega, fun i hi => by rw [sm7 i (by omega), U6.row i hi]⟩
  replace Fw0 : Fr2 1 28 2 H2.next H3.next H7 w0 _ := Fw0.same fun i _ hi => sm7 i (by omega)
  replace Fr0 : Fr2 1 28 2 H4.next H5.next H7 r0 _ := Fr0.same fun i _ hi => sm7 i (by omega)
  try simp (disch := first | omega | (simp only [ints_length, List.length_replicate]; done) | (simp only [ints_length, List.length_replicate]; omega)) only [Sall,evalOp,init,binE,binI,unE,convE,okNil,builtE,gv,TD.isAgg,resV,↓reduceIte,Nat.reduceEqDiff,reduceCtorEq,Nat.reduceAdd,Nat.reduceMul,Nat.reduceLeDiff,quietOp,blindOp,Int.reduceEq,Int.reduceLT,Int.reduceLE,Nat.reduceLT,ti2,ti3,ti4,ti79,ti80,ti28,ti25,ti31,ti22,ti33,ti24,ti67,ti111,ti100, Ou0, Ow0, Og0, Or0]
  rw [decide_eq_false (by omega)]
  try simp (disch := first | omega | (simp only [ints_length, List.length_replicate]; done) | (simp only [ints_length, List.length_replicate]; omega)) only [Sall,evalOp,init,binE,binI,unE,convE,okNil,builtE,gv,TD.isAgg,resV,↓reduceIte,Nat.reduceEqDiff,reduceCtorEq,Nat.reduceAdd,Nat.reduceMul,Nat.reduceLeDiff,quietOp,blindOp,Int.reduceEq,Int.reduceLT,Int.reduceLE,Nat.reduceLT,ti2,ti3,ti4,ti79,ti80,ti28,ti25,ti31,ti22,ti33,ti24,ti67,ti111,ti100, Ou0, Ow0, Og0, Or0]
  refine (eqInt64SS_c r0 w0 _ hL0 hM0 H7 Fr0.rd Fw0.rd).to ?_
  try simp (disch := first | omega | (simp only [ints_length, List.length_replicate]; done) | (simp only [ints_length, List.length_replicate]; omega)) only [Sall,evalOp,init,binE,binI,unE,convE,okNil,builtE,gv,TD.isAgg,resV,↓reduceIte,Nat.reduceEqDiff,reduceCtorEq,Nat.reduceAdd,Nat.reduceMul,Nat.reduceLeDiff,quietOp,blindOp,Int.reduceEq,Int.reduceLT,Int.reduceLE,Nat.reduceLT,ti2,ti3,ti4,ti79,ti80,ti28,ti25,ti31,ti22,ti33,ti24,ti67,ti111,ti100, Bool.not_true, bne_self_eq_false, Ou0, Ow0, Og0, Or0]
  refine (markInt64SS_c _ _ H4.next H5.next r0 _ _ (by omega) (by omega) (by omega) H7 Fr0).fin ?_
  rintro H8 ⟨nx8, sm8, KFr0⟩
  have U8 : Up H.next H H8 := ⟨by have := U7.next; omega, fun i hi => by rw [sm8 i (by omega), U7.row i hi]⟩
  replace Fw0 : Fr2 1 28 2 H2.next H3.next H8 w0 _ := Fw0.same fun i _ hi => sm8 i (by omega)
  try simp (disch := first | omega | (simp only [ints_length, List.length_replicate]; done) | (simp only [ints_length, List.length_replicate]; omega)) only [Sall,evalOp,init,binE,binI,unE,convE,okNil,builtE,gv,TD.isAgg,resV,↓reduceIte,Nat.reduceEqDiff,reduceCtorEq,Nat.reduceAdd,Nat.reduceMul,Nat.reduceLeDiff,quietOp,blindOp,Int.reduceEq,Int.reduceLT,Int.reduceLE,Nat.reduceLT,ti2,ti3,ti4,ti79,ti80,ti28,ti25,ti31,ti22,ti33,ti24,ti67,ti111,ti100, Ou0, Ow0, Og0, Or0]
  refine (heldInt64SS_c r0 _ _ (by omega) (by omega) (by omega) H8 KFr0.rd).to ?_
  try simp (disch := first | omega | (simp only [ints_length, List.length_replicate]; done) | (simp only [ints_length, List.length_replicate]; omega)) only [Sall,evalOp,init,binE,binI,unE,convE,okNil,builtE,gv,TD.isAgg,resV,↓reduceIte,Nat.reduceEqDiff,reduceCtorEq,Nat.reduceAdd,Nat.reduceMul,Nat.reduceLeDiff,quietOp,blindOp,Int.reduceEq,Int.reduceLT,Int.reduceLE,Nat.reduceLT,ti2,ti3,ti4,ti79,ti80,ti28,ti25,ti31,ti22,ti33,ti24,ti67,ti111,ti100, bne_self_eq_false, beq_self_eq_true, Bool.not_true, Ou0, Ow0, Og0, Or0]
  rw [decide_eq_false (by omega)]
  try simp (disch := first | omega | (simp only [ints_length, List.length_replicate]; done) | (simp only [ints_length, List.length_replicate]; omega)) only [Sall,evalOp,init,binE,binI,unE,convE,okNil,builtE,gv,TD.isAgg,resV,↓reduceIte,Nat.reduceEqDiff,reduceCtorEq,Nat.reduceAdd,Nat.reduceMul,Nat.reduceLeDiff,quietOp,blindOp,Int.reduceEq,Int.reduceLT,Int.reduceLE,Nat.reduceLT,ti2,ti3,ti4,ti79,ti80,ti28,ti25,ti31,ti22,ti33,ti24,ti67,ti111,ti100, bne_self_eq_false, beq_self_eq_true, Bool.not_true, Ou0, Ow0, Og0, Or0]
  refine (toInt64S_c v0 n0 l0 H8 (h0.same (U8.le hs).row) (by omega)).to ?_
  obtain ⟨x0, et⟩ : ∃ u, u = Value.slice (some ⟨H8.next, 0, some 1⟩) n0 n0 := ⟨_, rfl⟩
  obtain ⟨H9, eh⟩ : ∃ K, K = H8.push ⟨2, true, ints l0⟩ := ⟨_, rfl⟩
  rw [← et, ← eh]
  have up9 : Up H8.next H8 H9 := by rw [eh]; exact (Up.refl _ _).push (Nat.le_refl _) _
  have Fx0 : Fr 1 2 H8.next H9.next H9 x0 n0 l0 := ⟨h0.1, .inr ⟨H8.next, Nat.le_refl _, by rw [eh]; exact Nat.lt_succ_self _, et, by rw [eh, AH.push_row, if_pos rfl]⟩⟩
  clear et eh
  have nx9 := up9.next
  have U9 : Up H.next H H9 := U8.trans up9 (by omega)
  replace Fw0 : Fr2 1 28 2 H2.next H3.next H9 w0 _ := Fw0.same fun i _ hi => up9.row i (by omega)
  replace KFr0 : Fr2 1 28 2 H4.next H5.next H9 r0 _ := KFr0.same fun i _ hi => up9.row i (by omega)
  have Ox0 := Fx0.rd.one
  try simp (disch := first | omega | (simp only [ints_length, List.length_replicate]; done) | (simp only [ints_length, List.length_replicate]; omega)) only [Sall,evalOp,init,binE,binI,unE,convE,okNil,builtE,gv,TD.isAgg,resV,↓reduceIte,Nat.reduceEqDiff,reduceCtorEq,Nat.reduceAdd,Nat.reduceMul,Nat.reduceLeDiff,quietOp,blindOp,Int.reduceEq,Int.reduceLT,Int.reduceLE,Nat.reduceLT,ti2,ti3,ti4,ti79,ti80,ti28,ti25,ti31,ti22,ti33,ti24,ti67,ti111,ti100, Ou0, Ow0, Og0, Or0, Ox0]
  refine (SquareOfList_c x0 n0 l0 H9 Fx0.rd (by omega)).ex ?_
  rintro s0 H10 ⟨up10, Fs0⟩
  have nx10 := up10.next
  have U10 : Up H.next H H10 := U9.trans up10 (by omega)
  replace Fw0 : Fr2 1 28 2 H2.next H3.next H10 w0 _ := Fw0.same fun i _ hi => up10.row i (by omega)
  replace KFr0 : Fr2 1 28 2 H4.next H5.next H10 r0 _ := KFr0.same fun i _ hi => up10.row i (by omega)
  replace Fx0 : Fr 1 2 H8.next H9.next H10 x0 n0 l0 := Fx0.same fun i _ hi => up10.row i (by omega)
  have Os0 := Fs0.rd.one
  try simp (disch := first | omega | (simp only [ints_length, List.length_replicate]; done) | (simp only [ints_length, List.length_replicate]; omega)) only [Sall,evalOp,init,binE,binI,unE,convE,okNil,builtE,gv,TD.isAgg,resV,↓reduceIte,Nat.reduceEqDiff,reduceCtorEq,Nat.reduceAdd,Nat.reduceMul,Nat.reduceLeDiff,quietOp,blindOp,Int.reduceEq,Int.reduceLT,Int.reduceLE,Nat.reduceLT,ti2,ti3,ti4,ti79,ti80,ti28,ti25,ti31,ti22,ti33,ti24,ti67,ti111,ti100, Ou0, Ow0, Og0, Or0, Ox0, Os0]
  refine (eqInt64SS_c s0 w0 _ hL0 hM0 H10 Fs0.rd Fw0.rd).to ?_
  try simp (disch := first | omega | (simp only [ints_length, List.length_replicate]; done) | (simp only [ints_length, List.length_replicate]; omega)) only [Sall,evalOp,init,binE,binI,unE,convE,okNil,builtE,gv,TD.isAgg,resV,↓reduceIte,Nat.reduceEqDiff,reduceCtorEq,Nat.reduceAdd,Nat.reduceMul,Nat.reduceLeDiff,quietOp,blindOp,Int.reduceEq,Int.reduceLT,Int.reduceLE,Nat.reduceLT,ti2,ti3,ti4,ti79,ti80,ti28,ti25,ti31,ti22,ti33,ti24,ti67,ti111,ti100, Bool.not_true, bne_self_eq_false, Ou0, Ow0, Og0, Or0, Ox0, Os0]
  refine (heldInt64SS_c r0 _ _ (by omega) (by omega) (by omega) H10 KFr0.rd).to ?_
  try simp (disch := first | omega | (simp only [ints_length, List.length_replicate]; done) | (simp only [ints_length, List.length_replicate]; omega)) only [Sall,evalOp,init,binE,binI,unE,convE,okNil,builtE,gv,TD.isAgg,resV,↓reduceIte,Nat.reduceEqDiff,reduceCtorEq,Nat.reduceAdd,Nat.reduceMul,Nat.reduceLeDiff,quietOp,blindOp,Int.reduceEq,Int.reduceLT,Int.reduceLE,Nat.reduceLT,ti2,ti3,ti4,ti79,ti80,ti28,ti25,ti31,ti22,ti33,ti24,ti67,ti111,ti100, bne_self_eq_false, beq_self_eq_true, Bool.not_true, Ou0, Ow0, Og0, Or0, Ox0, Os0]
  rw [decide_eq_false (by omega)]
  try simp (disch := first | omega | (simp only [ints_length, List.length_replicate]; done) | (simp only [ints_length, List.length_replicate]; omega)) only [Sall,evalOp,init,binE,binI,unE,convE,okNil,builtE,gv,TD.isAgg,resV,↓reduceIte,Nat.reduceEqDiff,reduceCtorEq,Nat.reduceAdd,Nat.reduceMul,Nat.reduceLeDiff,quietOp,blindOp,Int.reduceEq,Int.reduceLT,Int.reduceLE,Nat.reduceLT,ti2,ti3,ti4,ti79,ti80,ti28,ti25,ti31,ti22,ti33,ti24,ti67,ti111,ti100, bne_self_eq_false, beq_self_eq_true, Bool.not_true, Ou0, Ow0, Og0, Or0, Ox0, Os0]
end Go.Proofs.Ytbmpkihggipciaa.A
