/- The walk of the law of DigitRobin. -/
import Derived.Test.YtbmpkihggipciaaC29
import Derived.Test.YtbmpkihggipciaaL1
import Derived.Test.YtbmpkihggipciaaL2
import Derived.Test.YtbmpkihggipciaaL3
set_option linter.unusedSimpArgs false
set_option linter.unusedVariables false
set_option maxRecDepth 100000
--LEN ints_length, List.length_replicate
namespace Go.Proofs.Ytbmpkihggipciaa.A
open Go Go.Abs Go.RowKit

theorem law_DigitRobin_c (a0 : Int) (v1 : Value) (n1 : Nat) (l1 : List Int) (H : AH) (b0 : -9223372036854775808 ≤ a0 ∧ a0 ≤ 9223372036854775807) (h1 : Rd 1 H v1 n1 l1) (b1 : n1 ≤ 9223372036854775807) :
    ACalls Try.prog 12 [.int .i64 a0, v1] H (fun v _ => v = .bool true ∧ True) := by
  refine ACalls.wf (by kernel_rfl) fun hs => acalls_of_awp [.tmp 4] Try.func12 (by kernel_rfl) rfl rfl (Nat.le_of_ble_eq_true rfl) (by kernel_rfl) ?_
  try simp (disch := first | omega | (simp only [ints_length, List.length_replicate]; done) | (simp only [ints_length, List.length_replicate]; omega)) only [Sall,evalOp,init,binE,binI,unE,convE,okNil,builtE,gv,TD.isAgg,resV,↓reduceIte,Nat.reduceEqDiff,reduceCtorEq,Nat.reduceAdd,Nat.reduceMul,Nat.reduceLeDiff,quietOp,blindOp,Int.reduceEq,Int.reduceLT,Int.reduceLE,Nat.reduceLT,ti2,ti3,ti4,ti79,ti80,ti28,ti25,ti31,ti22,ti33,ti24,ti67,ti111,ti100, true_and]
  obtain ⟨H1, eH1⟩ : ∃ H1, H1 = H := ⟨_, rfl⟩
  have nx1 : H1.next = H.next + 0 := by rw [eH1]; rfl
  have U1 : Up H.next H H1 := by rw [eH1]; exact Up.refl _ H
  rw [← eH1]
  clear eH1
  have ln1 := (h1.same (U1.le hs).row).len
  by_cases y1 : (1048576 : Int) < (n1 : Int)
  · try simp (disch := first | omega | (simp only [ints_length, List.length_replicate]; done) | (simp only [ints_length, List.length_replicate]; omega)) only [Sall,evalOp,init,binE,binI,unE,convE,okNil,builtE,gv,TD.isAgg,resV,↓reduceIte,Nat.reduceEqDiff,reduceCtorEq,Nat.reduceAdd,Nat.reduceMul,Nat.reduceLeDiff,quietOp,blindOp,Int.reduceEq,Int.reduceLT,Int.reduceLE,Nat.reduceLT,ti2,ti3,ti4,ti79,ti80,ti28,ti25,ti31,ti22,ti33,ti24,ti67,ti111,ti100, builtE, ln1, y1, decide_true]
  have y1' : n1 ≤ 1048576 := by omega
  try simp (disch := first | omega | (simp only [ints_length, List.length_replicate]; done) | (simp only [ints_length, List.length_replicate]; omega)) only [Sall,evalOp,init,binE,binI,unE,convE,okNil,builtE,gv,TD.isAgg,resV,↓reduceIte,Nat.reduceEqDiff,reduceCtorEq,Nat.reduceAdd,Nat.reduceMul,Nat.reduceLeDiff,quietOp,blindOp,Int.reduceEq,Int.reduceLT,Int.reduceLE,Nat.reduceLT,ti2,ti3,ti4,ti79,ti80,ti28,ti25,ti31,ti22,ti33,ti24,ti67,ti111,ti100, builtE, ln1, y1, decide_false]
  have hL0 : (drK a0 l1) ≤ 4294967296 := by have := drK_le a0 l1; omega
  refine (toInt64S_c v1 n1 l1 H1 (h1.same (U1.le hs).row) (by omega)).to ?_
  obtain ⟨u1, et⟩ : ∃ u, u = Value.slice (some ⟨H1.next, 0, some 1⟩) n1 n1 := ⟨_, rfl⟩
  obtain ⟨H2, eh⟩ : ∃ K, K = H1.push ⟨2, true, ints l1⟩ := ⟨_, rfl⟩
  rw [← et, ← eh]
  have up2 : Up H1.next H1 H2 := by rw [eh]; exact (Up.refl _ _).push (Nat.le_refl _) _
  have Fu1 : Fr 1 2 H1.next H2.next H2 u1 n1 l1 := ⟨h1.1, .inr ⟨H1.next, Nat.le_refl _, by rw [eh]; exact Nat.lt_succ_self _, et, by rw [eh, AH.push_row, if_pos rfl]⟩⟩
  clear et eh
  have nx2 := up2.next
  have U2 : Up H.next H H2 := U1.trans up2 (by omega)
  have Ou1 := Fu1.rd.one
  try simp (disch := first | omega | (simp only [ints_length, List.length_replicate]; done) | (simp only [ints_length, List.length_replicate]; omega)) only [Sall,evalOp,init,binE,binI,unE,convE,okNil,builtE,gv,TD.isAgg,resV,↓reduceIte,Nat.reduceEqDiff,reduceCtorEq,Nat.reduceAdd,Nat.reduceMul,Nat.reduceLeDiff,quietOp,blindOp,Int.reduceEq,Int.reduceLT,Int.reduceLE,Nat.reduceLT,ti2,ti3,ti4,ti79,ti80,ti28,ti25,ti31,ti22,ti33,ti24,ti67,ti111,ti100, Ou1]
  refine (specDigitRobin_c a0 u1 n1 l1 H2 b0 Fu1.rd (by omega)).ex ?_
  rintro w0 H3 ⟨up3, Fw0⟩
  have nx3 := up3.next
  have U3 : Up H.next H H3 := U2.trans up3 (by omega)
  replace Fu1 : Fr 1 2 H1.next H2.next H3 u1 n1 l1 := Fu1.same fun i _ hi => up3.row i (by omega)
  have Ow0 := Fw0.rd.one
  try simp (disch := first | omega | (simp only [ints_length, List.length_replicate]; done) | (simp only [ints_length, List.length_replicate]; omega)) only [Sall,evalOp,init,binE,binI,unE,convE,okNil,builtE,gv,TD.isAgg,resV,↓reduceIte,Nat.reduceEqDiff,reduceCtorEq,Nat.reduceAdd,Nat.reduceMul,Nat.reduceLeDiff,quietOp,blindOp,Int.reduceEq,Int.reduceLT,Int.reduceLE,Nat.reduceLT,ti2,ti3,ti4,ti79,ti80,ti28,ti25,ti31,ti22,ti33,ti24,ti67,ti111,ti100, Ou1, Ow0]
  obtain ⟨H4, eh⟩ : ∃ K, K = (H3.push ⟨33, true, [.int .i64 0, .slice none 0 0]⟩).setCells H3.next [.int .i64 (drQ a0 l1), w0] := ⟨_, rfl⟩
  have up4 : Up H3.next H3 H4 := by rw [eh]; exact ((Up.refl _ _).push (Nat.le_refl _) _).set (Nat.le_refl _) _
  have Ew0 : H4.row H3.next = some ⟨33, true, [.int .i64 (drQ a0 l1), w0]⟩ := by rw [eh, AH.setCells_row, if_pos rfl, AH.push_row, if_pos rfl]; rfl
  have nn4 : H4.next = H3.next + 1 := by rw [eh]; rfl
  rw [← eh]
  clear eh
  have nx4 := up4.next
  have U4 : Up H.next H H4 := U3.trans up4 (by omega)
  replace Fu1 : Fr 1 2 H1.next H2.next H4 u1 n1 l1 := Fu1.same fun i _ hi => up4.row i (by omega)
  replace Fw0 : Fr 14 80 H2.next H3.next H4 w0 _ _ := Fw0.same fun i _ hi => up4.row i (by omega)
  try simp (disch := first | omega | (simp only [ints_length, List.length_replicate]; done) | (simp only [ints_length, List.length_replicate]; omega)) only [Sall,evalOp,init,binE,binI,unE,convE,okNil,builtE,gv,TD.isAgg,resV,↓reduceIte,Nat.reduceEqDiff,reduceCtorEq,Nat.reduceAdd,Nat.reduceMul,Nat.reduceLeDiff,quietOp,blindOp,Int.reduceEq,Int.reduceLT,Int.reduceLE,Nat.reduceLT,ti2,ti3,ti4,ti79,ti80,ti28,ti25,ti31,ti22,ti33,ti24,ti67,ti111,ti100, Ew0, Ou1, Ow0]
  refine (toInt64S_c v1 n1 l1 H4 (h1.same (U4.le hs).row) (by omega)).to ?_
  obtain ⟨g1, et⟩ : ∃ u, u = Value.slice (some ⟨H4.next, 0, some 1⟩) n1 n1 := ⟨_, rfl⟩
  obtain ⟨H5, eh⟩ : ∃ K, K = H4.push ⟨2, true, ints l1⟩ := ⟨_, rfl⟩
  rw [← et, ← eh]
  have up5 : Up H4.next H4 H5 := by rw [eh]; exact (Up.refl _ _).push (Nat.le_refl _) _
  have Fg1 : Fr 1 2 H4.next H5.next H5 g1 n1 l1 := ⟨h1.1, .inr ⟨H4.next, Nat.le_refl _, by rw [eh]; exact Nat.lt_succ_self _, et, by rw [eh, AH.push_row, if_pos rfl]⟩⟩
  clear et eh
  have nx5 := up5.next
  have U5 : Up H.next H H5 := U4.trans up5 (by omega)
  replace Ew0 : H5.row H3.next = some ⟨33, true, [.int .i64 (drQ a0 l1), w0]⟩ := by rw [up5.row _ (by omega), Ew0]
  replace Fw0 : Fr 14 80 H2.next H3.next H5 w0 _ _ := Fw0.same fun i _ hi => up5.row i (by omega)
  have Og1 := Fg1.rd.one
  try simp (disch := first | omega | (simp only [ints_length, List.length_replicate]; done) | (simp only [ints_length, List.length_replicate]; omega)) only [Sall,evalOp,init,binE,binI,unE,convE,okNil,builtE,gv,TD.isAgg,resV,↓reduceIte,Nat.reduceEqDiff,reduceCtorEq,Nat.reduceAdd,Nat.reduceMul,Nat.reduceLeDiff,quietOp,blindOp,Int.reduceEq,Int.reduceLT,Int.reduceLE,Nat.reduceLT,ti2,ti3,ti4,ti79,ti80,ti28,ti25,ti31,ti22,ti33,ti24,ti67,ti111,ti100, Ew0, Ou1, Ow0, Og1]
  refine (DigitRobin_c a0 g1 n1 l1 H5 b0 Fg1.rd (by omega)).ex ?_
  rintro r0 H6 ⟨up6, Fr0⟩
  have nx6 := up6.next
  have U6 : Up H.next H H6 := U5.trans up6 (by omega)
  replace Ew0 : H6.row H3.next = some ⟨33, true, [.int .i64 (drQ a0 l1), w0]⟩ := by rw [up6.row _ (by omega), Ew0]
  replace Fw0 : Fr 14 80 H2.next H3.next H6 w0 _ _ := Fw0.same fun i _ hi => up6.row i (by omega)
  replace Fg1 : Fr 1 2 H4.next H5.next H6 g1 n1 l1 := Fg1.same fun i _ hi => up6.row i (by omega)
  have Or0 := Fr0.rd.one
  have ne60 : ¬ H3.next = H6.next := by omega
  try simp (disch := first | omega | (simp only [ints_length, List.length_replicate]; done) | (simp only [ints_length, List.length_replicate]; omega)) only [Sall,evalOp,init,binE,binI,unE,convE,okNil,builtE,gv,TD.isAgg,resV,↓reduceIte,Nat.reduceEqDiff,reduceCtorEq,Nat.reduceAdd,Nat.reduceMul,Nat.reduceLeDiff,quietOp,blindOp,Int.reduceEq,Int.reduceLT,Int.reduceLE,Nat.reduceLT,ti2,ti3,ti4,ti79,ti80,ti28,ti25,ti31,ti22,ti33,ti24,ti67,ti111,ti100, Ew0, Ou1, Ow0, Og1, Or0, ne60]
  obtain ⟨H7, eh⟩ : ∃ K, K = (H6.push ⟨33, true, [.int .i64 0, .slice none 0 0]⟩).setCells H6.next [.int .i64 (drQ a0 l1), r0] := ⟨_, rfl⟩
  have up7 : Up H6.next H6 H7 := by rw [eh]; exact ((Up.refl _ _).push (Nat.le_refl _) _).set (Nat.le_refl _) _
  have Er0 : H7.row H6.next = some ⟨33, true, [.int .i64 (drQ a0 l1), r0]⟩ := by rw [eh, AH.setCells_row, if_pos rfl, AH.push_row, if_pos rfl]; rfl
  have nn7 : H7.next = H6.next + 1 := by rw [eh]; rfl
  rw [← eh]
  clear eh
  have nx7 := up7.next
  have U7 : Up H.next H H7 := U6.trans up7 (by omega)
  replace Ew0 : H7.row H3.next = some ⟨33, true, [.int .i64 (drQ a0 l1), w0]⟩ := by rw [up7.row _ (by omega), Ew0]
  replace Fw0 : Fr 14 80 H2.next H3.next H7 w0 _ _ := Fw0.same fun i _ hi => up7.row i (by omega)
  replace Fg1 : Fr 1 2 H4.next H5.next H7 g1 n1 l1 := Fg1.same fun i _ hi => up7.row i (by omega)
  replace Fr0 : Fr 14 80 H5.next H6.next H7 r0 _ _ := Fr0.same fun i _ hi => up7.row i (by omega)
  try simp (disch := first | omega | (simp only [ints_length, List.length_replicate]; done) | (simp only [ints_length, List.length_replicate]; omega)) only [Sall,evalOp,init,binE,binI,unE,convE,okNil,builtE,gv,TD.isAgg,resV,↓reduceIte,Nat.reduceEqDiff,reduceCtorEq,Nat.reduceAdd,Nat.reduceMul,Nat.reduceLeDiff,quietOp,blindOp,Int.reduceEq,Int.reduceLT,Int.reduceLE,Nat.reduceLT,ti2,ti3,ti4,ti79,ti80,ti28,ti25,ti31,ti22,ti33,ti24,ti67,ti111,ti100, Ew0, Er0, Ou1, Ow0, Og1, Or0]
  refine (eqSchedule_c r0 w0 _ _ _ hL0 H7 Fr0.rd Fw0.rd Or0 Ow0).to ?_
  try simp (disch := first | omega | (simp only [ints_length, List.length_replicate]; done) | (simp only [ints_length, List.length_replicate]; omega)) only [Sall,evalOp,init,binE,binI,unE,convE,okNil,builtE,gv,TD.isAgg,resV,↓reduceIte,Nat.reduceEqDiff,reduceCtorEq,Nat.reduceAdd,Nat.reduceMul,Nat.reduceLeDiff,quietOp,blindOp,Int.reduceEq,Int.reduceLT,Int.reduceLE,Nat.reduceLT,ti2,ti3,ti4,ti79,ti80,ti28,ti25,ti31,ti22,ti33,ti24,ti67,ti111,ti100, Bool.not_true, bne_self_eq_false, Ew0, Er0, Ou1, Ow0, Og1, Or0]
  refine (toInt64S_c v1 n1 l1 H7 (h1.same (U7.le hs).row) (by omega)).to ?_
  obtain ⟨t1, et⟩ : ∃ u, u = Value.slice (some ⟨H7.next, 0, some 1⟩) n1 n1 := ⟨_, rfl⟩
  obtain ⟨H8, eh⟩ : ∃ K, K = H7.push ⟨2, true, ints l1⟩ := ⟨_, rfl⟩
  rw [← et, ← eh]
  have up8 : Up H7.next H7 H8 := by rw [eh]; exact (Up.refl _ _).push (Nat.le_refl _) _
  have Ft1 : Fr 1 2 H7.next H8.next H8 t1 n1 l1 := ⟨h1.1, .inr ⟨H7.next, Nat.le_refl _, by rw [eh]; exact Nat.lt_succ_self _, et, by rw [eh, AH.push_row, if_pos rfl]⟩⟩
  clear et eh
  have nx8 := up8.next
  have U8 : Up H.next H H8 := U7.trans up8 (by omega)
  replace Ew0 : H8.row H3.next = some ⟨33, true, [.int .i64 (drQ a0 l1), w0]⟩ := by rw [up8.row _ (by omega), Ew0]
  replace Er0 : H8.row H6.next = some ⟨33, true, [.int .i64 (drQ a0 l1), r0]⟩ := by rw [up8.row _ (by omega), Er0]
  replace Fw0 : Fr 14 80 H2.next H3.next H8 w0 _ _ := Fw0.same fun i _ hi => up8.row i (by omega)
  replace Fg1 : Fr 1 2 H4.next H5.next H8 g1 n1 l1 := Fg1.same fun i _ hi => up8.row i (by omega)
  replace Fr0 : Fr 14 80 H5.next H6.next H8 r0 _ _ := Fr0.same fun i _ hi => up8.row i (by omega)
  try simp (disch := first | omega | (simp only [ints_length, List.length_replicate]; done) | (simp only [ints_length, List.length_replicate]; omega)) only [Sall,evalOp,init,binE,binI,unE,convE,okNil,builtE,gv,TD.isAgg,resV,↓reduceIte,Nat.reduceEqDiff,reduceCtorEq,Nat.reduceAdd,Nat.reduceMul,Nat.reduceLeDiff,quietOp,blindOp,Int.reduceEq,Int.reduceLT,Int.reduceLE,Nat.reduceLT,ti2,ti3,ti4,ti79,ti80,ti28,ti25,ti31,ti22,ti33,ti24,ti67,ti111,ti100, Ew0, Er0, Ou1, Ow0, Og1, Or0]
  refine (eqInt64S_c g1 t1 _ _ _ (by omega) H8 Fg1.rd Ft1.rd).to ?_
  try simp (disch := first | omega | (simp only [ints_length, List.length_replicate]; done) | (simp only [ints_length, List.length_replicate]; omega)) only [Sall,evalOp,init,binE,binI,unE,convE,okNil,builtE,gv,TD.isAgg,resV,↓reduceIte,Nat.reduceEqDiff,reduceCtorEq,Nat.reduceAdd,Nat.reduceMul,Nat.reduceLeDiff,quietOp,blindOp,Int.reduceEq,Int.reduceLT,Int.reduceLE,Nat.reduceLT,ti2,ti3,ti4,ti79,ti80,ti28,ti25,ti31,ti22,ti33,ti24,ti67,ti111,ti100, Bool.not_true, Ew0, Er0, Ou1, Ow0, Og1, Or0]
  try simp (disch := first | omega | (simp only [ints_length, List.length_replicate]; done) | (simp only [ints_length, List.length_replicate]; omega)) only [Sall,evalOp,init,binE,binI,unE,convE,okNil,builtE,gv,TD.isAgg,resV,↓reduceIte,Nat.reduceEqDiff,reduceCtorEq,Nat.reduceAdd,Nat.reduceMul,Nat.reduceLeDiff,quietOp,blindOp,Int.reduceEq,Int.reduceLT,Int.reduceLE,Nat.reduceLT,ti2,ti3,ti4,ti79,ti80,ti28,ti25,ti31,ti22,ti33,ti24,ti67,ti111,ti100, Ew0, Er0, Ou1, Ow0, Og1, Or0]
  refine (markInt64S_c _ H4.next H5.next g1 _ _ _ (by omega) (by omega) H8 Fg1).fin ?_
  rintro H9 ⟨nx9, sm9, KFg1⟩
  have U9 : Up H.next H H9 := ⟨by have := U8.next; omega, fun i hi => by rw [sm9 i (by omega), U8.row i hi]⟩
  replace Ew0 : H9.row H3.next = some ⟨33, true, [.int .i64 (drQ a0 l1), w0]⟩ := by rw [sm9 _ (by omega), Ew0]
  replace Er0 : H9.row H6.next = some ⟨33, true, [.int .i64 (drQ a0 l1), r0]⟩ := by rw [sm9 _ (by omega), Er0]
  replace Fw0 : Fr 14 80 H2.next H3.next H9 w0 _ _ := Fw0.same fun i _ hi => sm9 i (by omega)
  replace Fr0 : Fr 14 80 H5.next H6.next H9 r0 _ _ := Fr0.same fun i _ hi => sm9 i (by omega)
  try simp (disch := first | omega | (simp only [ints_length, List.length_replicate]; done) | (simp only [ints_length, List.length_replicate]; omega)) only [Sall,evalOp,init,binE,binI,unE,convE,okNil,builtE,gv,TD.isAgg,resV,↓reduceIte,Nat.reduceEqDiff,reduceCtorEq,Nat.reduceAdd,Nat.reduceMul,Nat.reduceLeDiff,quietOp,blindOp,Int.reduceEq,Int.reduceLT,Int.reduceLE,Nat.reduceLT,ti2,ti3,ti4,ti79,ti80,ti28,ti25,ti31,ti22,ti33,ti24,ti67,ti111,ti100, Ew0, Er0, Ou1, Ow0, Og1, Or0]
  rw [decide_eq_false (by omega)]
  try simp (disch := first | omega | (simp only [ints_length, List.length_replicate]; done) | (simp only [ints_length, List.length_replicate]; omega)) only [Sall,evalOp,init,binE,binI,unE,convE,okNil,builtE,gv,TD.isAgg,resV,↓reduceIte,Nat.reduceEqDiff,reduceCtorEq,Nat.reduceAdd,Nat.reduceMul,Nat.reduceLeDiff,quietOp,blindOp,Int.reduceEq,Int.reduceLT,Int.reduceLE,Nat.reduceLT,ti2,ti3,ti4,ti79,ti80,ti28,ti25,ti31,ti22,ti33,ti24,ti67,ti111,ti100, Ew0, Er0, Ou1, Ow0, Og1, Or0]
  refine (eqSchedule_c r0 w0 _ _ _ hL0 H9 Fr0.rd Fw0.rd Or0 Ow0).to ?_
  try simp (disch := first | omega | (simp only [ints_length, List.length_replicate]; done) | (simp only [ints_length, List.length_replicate]; omega)) only [Sall,evalOp,init,binE,binI,unE,convE,okNil,builtE,gv,TD.isAgg,resV,↓reduceIte,Nat.reduceEqDiff,reduceCtorEq,Nat.reduceAdd,Nat.reduceMul,Nat.reduceLeDiff,quietOp,blindOp,Int.reduceEq,Int.reduceLT,Int.reduceLE,Nat.reduceLT,ti2,ti3,ti4,ti79,ti80,ti28,ti25,ti31,ti22,ti33,ti24,ti67,ti111,ti100, Bool.not_true, bne_self_eq_false, Ew0, Er0, Ou1, Ow0, Og1, Or0]
  refine (markSchedule_c _ H5.next H6.next r0 _ _ _ _ (by omega) (by omega) H9 Fr0 (by omega)).fin ?_
  rintro H10 ⟨nx10, sm10, KFr0⟩
  have U10 : Up H.next H H10 := ⟨by have := U9.next; omega, fun i hi => by rw [sm10 i (by omega) (by omega), U9.row i hi]⟩
  replace Ew0 : H10.row H3.next = some ⟨33, true, [.int .i64 (drQ a0 l1), w0]⟩ := by rw [sm10 _ (by omega) (by omega), Ew0]
  replace Er0 : H10.row H6.next = some ⟨33, true, [.int .i64 (drQ a0 l1), r0]⟩ := by rw [sm10 _ (by omega) (by omega), Er0]
  replace Fw0 : Fr 14 80 H2.next H3.next H10 w0 _ _ := Fw0.same fun i _ hi => sm10 i (by omega) (by omega)
  try simp (disch := first | omega | (simp only [ints_length, List.length_replicate]; done) | (simp only [ints_length, List.length_replicate]; omega)) only [Sall,evalOp,init,binE,binI,unE,convE,okNil,builtE,gv,TD.isAgg,resV,↓reduceIte,Nat.reduceEqDiff,reduceCtorEq,Nat.reduceAdd,Nat.reduceMul,Nat.reduceLeDiff,quietOp,blindOp,Int.reduceEq,Int.reduceLT,Int.reduceLE,Nat.reduceLT,ti2,ti3,ti4,ti79,ti80,ti28,ti25,ti31,ti22,ti33,ti24,ti67,ti111,ti100, Ew0, Er0, Ou1, Ow0, Og1, Or0]
  refine (heldSchedule_c r0 _ _ _ (by omega) (by omega) H10 KFr0.rd).to ?_
  try simp (disch := first | omega | (simp only [ints_length, List.length_replicate]; done) | (simp only [ints_length, List.length_replicate]; omega)) only [Sall,evalOp,init,binE,binI,unE,convE,okNil,builtE,gv,TD.isAgg,resV,↓reduceIte,Nat.reduceEqDiff,reduceCtorEq,Nat.reduceAdd,Nat.reduceMul,Nat.reduceLeDiff,quietOp,blindOp,Int.reduceEq,Int.reduceLT,Int.reduceLE,Nat.reduceLT,ti2,ti3,ti4,ti79,ti80,ti28,ti25,ti31,ti22,ti33,ti24,ti67,ti111,ti100, bne_self_eq_false, beq_self_eq_true, Bool.not_true, Ew0, Er0, Ou1, Ow0, Og1, Or0]
  rw [decide_eq_false (by omega)]
  try simp (disch := first | omega | (simp only [ints_length, List.length_replicate]; done) | (simp only [ints_length, List.length_replicate]; omega)) only [Sall,evalOp,init,binE,binI,unE,convE,okNil,builtE,gv,TD.isAgg,resV,↓reduceIte,Nat.reduceEqDiff,reduceCtorEq,Nat.reduceAdd,Nat.reduceMul,Nat.reduceLeDiff,quietOp,blindOp,Int.reduceEq,Int.reduceLT,Int.reduceLE,Nat.reduceLT,ti2,ti3,ti4,ti79,ti80,ti28,ti25,ti31,ti22,ti33,ti24,ti67,ti111,ti100, bne_self_eq_false, beq_self_eq_true, Bool.not_true, Ew0, Er0, Ou1, Ow0, Og1, Or0]
  refine (toInt64S_c v1 n1 l1 H10 (h1.same (U10.le hs).row) (by omega)).to ?_
  obtain ⟨x1, et⟩ : ∃ u, u = Value.slice (some ⟨H10.next, 0, some 1⟩) n1 n1 := ⟨_, rfl⟩
  obtain ⟨H11, eh⟩ : ∃ K, K = H10.push ⟨2, true, ints l1⟩ := ⟨_, rfl⟩
  rw [← et, ← eh]
  have up11 : Up H10.next H10 H11 := by rw [eh]; exact (Up.refl _ _).push (Nat.le_refl _) _
  have Fx1 : Fr 1 2 H10.next H11.next H11 x1 n1 l1 := ⟨h1.1, .inr ⟨H10.next, Nat.le_refl _, by rw [eh]; exact Nat.lt_succ_self _, et, by rw [eh, AH.push_row, if_pos rfl]⟩⟩
  clear et eh
  have nx11 := up11.next
  have U11 : Up H.next H H11 := U10.trans up11 (by omega)
  replace Ew0 : H11.row H3.next = some ⟨33, true, [.int .i64 (drQ a0 l1), w0]⟩ := by rw [up11.row _ (by omega), Ew0]
  replace Er0 : H11.row H6.next = some ⟨33, true, [.int .i64 (drQ a0 l1), r0]⟩ := by rw [up11.row _ (by omega), Er0]
  replace Fw0 : Fr 14 80 H2.next H3.next H11 w0 _ _ := Fw0.same fun i _ hi => up11.row i (by omega)
  replace KFr0 : Fr 14 80 H5.next H6.next H11 r0 _ _ := KFr0.same fun i _ hi => up11.row i (by omega)
  have Ox1 := Fx1.rd.one
  try simp (disch := first | omega | (simp only [ints_length, List.length_replicate]; done) | (simp only [ints_length, List.length_replicate]; omega)) only [Sall,evalOp,init,binE,binI,unE,convE,okNil,builtE,gv,TD.isAgg,resV,↓reduceIte,Nat.reduceEqDiff,reduceCtorEq,Nat.reduceAdd,Nat.reduceMul,Nat.reduceLeDiff,quietOp,blindOp,Int.reduceEq,Int.reduceLT,Int.reduceLE,Nat.reduceLT,ti2,ti3,ti4,ti79,ti80,ti28,ti25,ti31,ti22,ti33,ti24,ti67,ti111,ti100, Ew0, Er0, Ou1, Ow0, Og1, Or0, Ox1]
  refine (DigitRobin_c a0 x1 n1 l1 H11 b0 Fx1.rd (by omega)).ex ?_
  rintro s0 H12 ⟨up12, Fs0⟩
  have nx12 := up12.next
  have U12 : Up H.next H H12 := U11.trans up12 (by omega)
  replace Ew0 : H12.row H3.next = some ⟨33, true, [.int .i64 (drQ a0 l1), w0]⟩ := by rw [up12.row _ (by omega), Ew0]
  replace Er0 : H12.row H6.next = some ⟨33, true, [.int .i64 (drQ a0 l1), r0]⟩ := by rw [up12.row _ (by omega), Er0]
  replace Fw0 : Fr 14 80 H2.next H3.next H12 w0 _ _ := Fw0.same fun i _ hi => up12.row i (by omega)
  replace KFr0 : Fr 14 80 H5.next H6.next H12 r0 _ _ := KFr0.same fun i _ hi => up12.row i (by omega)
  replace Fx1 : Fr 1 2 H10.next H11.next H12 x1 n1 l1 := Fx1.same fun i _ hi => up12.row i (by omega)
  have Os0 := Fs0.rd.one
  have ne120 : ¬ H3.next = H12.next := by omega
  have ne121 : ¬ H6.next = H12.next := by omega
  try simp (disch := first | omega | (simp only [ints_length, List.length_replicate]; done) | (simp only [ints_length, List.length_replicate]; omega)) only [Sall,evalOp,init,binE,binI,unE,convE,okNil,builtE,gv,TD.isAgg,resV,↓reduceIte,Nat.reduceEqDiff,reduceCtorEq,Nat.reduceAdd,Nat.reduceMul,Nat.reduceLeDiff,quietOp,blindOp,Int.reduceEq,Int.reduceLT,Int.reduceLE,Nat.reduceLT,ti2,ti3,ti4,ti79,ti80,ti28,ti25,ti31,ti22,ti33,ti24,ti67,ti111,ti100, Ew0, Er0, Ou1, Ow0, Og1, Or0, Ox1, Os0, ne120, ne121]
  obtain ⟨H13, eh⟩ : ∃ K, K = (H12.push ⟨33, true, [.int .i64 0, .slice none 0 0]⟩).setCells H12.next [.int .i64 (drQ a0 l1), s0] := ⟨_, rfl⟩
  have up13 : Up H12.next H12 H13 := by rw [eh]; exact ((Up.refl _ _).push (Nat.le_refl _) _).set (Nat.le_refl _) _
  have Es0 : H13.row H12.next = some ⟨33, true, [.int .i64 (drQ a0 l1), s0]⟩ := by rw [eh, AH.setCells_row, if_pos rfl, AH.push_row, if_pos rfl]; rfl
  have nn13 : H13.next = H12.next + 1 := by rw [eh]; rfl
  rw [← eh]
  clear eh
  have nx13 := up13.next
  have U13 : Up H.next H H13 := U12.trans up13 (by omega)
  replace Ew0 : H13.row H3.next = some ⟨33, true, [.int .i64 (drQ a0 l1), w0]⟩ := by rw [up13.row _ (by omega), Ew0]
  replace Er0 : H13.row H6.next = some ⟨33, true, [.int .i64 (drQ a0 l1), r0]⟩ := by rw [up13.row _ (by omega), Er0]
  replace Fw0 : Fr 14 80 H2.next H3.next H13 w0 _ _ := Fw0.same fun i _ hi => up13.row i (by omega)
  replace KFr0 : Fr 14 80 H5.next H6.next H13 r0 _ _ := KFr0.same fun i _ hi => up13.row i (by omega)
  replace Fx1 : Fr 1 2 H10.next H11.next H13 x1 n1 l1 := Fx1.same fun i _ hi => up13.row i (by omega)
  replace Fs0 : Fr 14 80 H11.next H12.next H13 s0 _ _ := Fs0.same fun i _ hi => up13.row i (by omega)
  try simp (disch := first | omega | (simp only [ints_length, List.length_replicate]; done) | (simp only [ints_length, List.length_replicate]; omega)) only [Sall,evalOp,init,binE,binI,unE,convE,okNil,builtE,gv,TD.isAgg,resV,↓reduceIte,Nat.reduceEqDiff,reduceCtorEq,Nat.reduceAdd,Nat.reduceMul,Nat.reduceLeDiff,quietOp,blindOp,Int.reduceEq,Int.reduceLT,Int.reduceLE,Nat.reduceLT,ti2,ti3,ti4,ti79,ti80,ti28,ti25,ti31,ti22,ti33,ti24,ti67,ti111,ti100, Ew0, Er0, Es0, Ou1, Ow0, Og1, Or0, Ox1, Os0]
  refine (eqSchedule_c s0 w0 _ _ _ hL0 H13 Fs0.rd Fw0.rd Os0 Ow0).to ?_
  try simp (disch := first | omega | (simp only [ints_length, List.length_replicate]; done) | (simp only [ints_length, List.length_replicate]; omega)) only [Sall,evalOp,init,binE,binI,unE,convE,okNil,builtE,gv,TD.isAgg,resV,↓reduceIte,Nat.reduceEqDiff,reduceCtorEq,Nat.reduceAdd,Nat.reduceMul,Nat.reduceLeDiff,quietOp,blindOp,Int.reduceEq,Int.reduceLT,Int.reduceLE,Nat.reduceLT,ti2,ti3,ti4,ti79,ti80,ti28,ti25,ti31,ti22,ti33,ti24,ti67,ti111,ti100, Bool.not_true, bne_self_eq_false, Ew0, Er0, Es0, Ou1, Ow0, Og1, Or0, Ox1, Os0]
  refine (heldSchedule_c r0 _ _ _ (by omega) (by omega) H13 KFr0.rd).to ?_
  try simp (disch := first | omega | (simp only [ints_length, List.length_replicate]; done) | (simp only [ints_length, List.length_replicate]; omega)) only [Sall,evalOp,init,binE,binI,unE,convE,okNil,builtE,gv,TD.isAgg,resV,↓reduceIte,Nat.reduceEqDiff,reduceCtorEq,Nat.reduceAdd,Nat.reduceMul,Nat.reduceLeDiff,quietOp,blindOp,Int.reduceEq,Int.reduceLT,Int.reduceLE,Nat.reduceLT,ti2,ti3,ti4,ti79,ti80,ti28,ti25,ti31,ti22,ti33,ti24,ti67,ti111,ti100, bne_self_eq_false, beq_self_eq_true, Bool.not_true, Ew0, Er0, Es0, Ou1, Ow0, Og1, Or0, Ox1, Os0]
  rw [decide_eq_false (by omega)]
  try simp (disch := first | omega | (simp only [ints_length, List.length_replicate]; done) | (simp only [ints_length, List.length_replicate]; omega)) only [Sall,evalOp,init,binE,binI,unE,convE,okNil,builtE,gv,TD.isAgg,resV,↓reduceIte,Nat.reduceEqDiff,reduceCtorEq,Nat.reduceAdd,Nat.reduceMul,Nat.reduceLeDiff,quietOp,blindOp,Int.reduceEq,Int.reduceLT,Int.reduceLE,Nat.reduceLT,ti2,ti3,ti4,ti79,ti80,ti28,ti25,ti31,ti22,ti33,ti24,ti67,ti111,ti100, bne_self_eq_false, beq_self_eq_true, Bool.not_true, Ew0, Er0, Es0, Ou1, Ow0, Og1, Or0, Ox1, Os0]
end Go.Proofs.Ytbmpkihggipciaa.A
