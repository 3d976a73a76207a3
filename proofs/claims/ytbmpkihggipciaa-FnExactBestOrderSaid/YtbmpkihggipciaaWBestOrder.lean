/- The walk of the law of BestOrder. -/
import Derived.Test.YtbmpkihggipciaaC28
import Derived.Test.YtbmpkihggipciaaL1
import Derived.Test.YtbmpkihggipciaaL3
set_option linter.unusedSimpArgs false
set_option linter.unusedVariables false
set_option maxRecDepth 100000
--LEN ints_length, List.length_replicate
namespace Go.Proofs.Ytbmpkihggipciaa.A
open Go Go.Abs Go.RowKit

theorem law_BestOrder_c (q0 : Int) (v0 : Value) (n0 : Nat) (l0 : List Int) (H : AH) (h0 : Rd 14 H v0 n0 l0) (b0 : n0 ≤ 9223372036854775807) :
    ACalls Try.prog 4 [.agg #[.int .i64 q0, v0]] H (fun v _ => v = .bool true ∧ True) := by
  refine ACalls.wf (by kernel_rfl) fun hs => acalls_of_awp [.tmp 2] Try.func4 (by kernel_rfl) rfl rfl (Nat.le_of_ble_eq_true rfl) (by kernel_rfl) ?_
  have o0 := h0.one
  try simp (disch := first | omega | (simp only [ints_length, List.length_replicate]; done) | (simp only [ints_length, List.length_replicate]; omega)) only [Sall,evalOp,init,binE,binI,unE,convE,okNil,builtE,gv,TD.isAgg,resV,↓reduceIte,Nat.reduceEqDiff,reduceCtorEq,Nat.reduceAdd,Nat.reduceMul,Nat.reduceLeDiff,quietOp,blindOp,Int.reduceEq,Int.reduceLT,Int.reduceLE,Nat.reduceLT,ti2,ti3,ti4,ti79,ti80,ti28,ti25,ti31,ti22,ti33,ti24,ti67,ti111,ti100, o0]
  obtain ⟨H1, eH1⟩ : ∃ H1, H1 = (H.push ⟨24, true, [.int .i64 q0, v0]⟩) := ⟨_, rfl⟩
  have nx1 : H1.next = H.next + 1 := by rw [eH1]; rfl
  have U1 : Up H.next H H1 := by rw [eH1]; exact ((Up.refl _ H).push (by first | omega | (simp only [AH.push_next]; omega)) _)
  have e0 : H1.row H.next = some ⟨24, true, [.int .i64 q0, v0]⟩ := by rw [eH1]; simp [AH.push_row, AH.push_next]
  rw [← eH1]
  clear eH1
  refine (szSchedule_c q0 v0 n0 l0 _ H1 (h0.same (U1.le hs).row) (by omega) b0).to ?_
  obtain ⟨x0, ex0⟩ : ∃ x, x = szL (1048576) n0 := ⟨_, rfl⟩
  rw [← ex0]
  have z0 : 0 ≤ x0 → (n0 : Int) + x0 = 1048576 := by intro hx; unfold szL at ex0; split at ex0 <;> omega
  refine Holds.mp ?_
  by_cases y0 : x0 < 0
  · try simp (disch := first | omega | (simp only [ints_length, List.length_replicate]; done) | (simp only [ints_length, List.length_replicate]; omega)) only [Sall,evalOp,init,binE,binI,unE,convE,okNil,builtE,gv,TD.isAgg,resV,↓reduceIte,Nat.reduceEqDiff,reduceCtorEq,Nat.reduceAdd,Nat.reduceMul,Nat.reduceLeDiff,quietOp,blindOp,Int.reduceEq,Int.reduceLT,Int.reduceLE,Nat.reduceLT,ti2,ti3,ti4,ti79,ti80,ti28,ti25,ti31,ti22,ti33,ti24,ti67,ti111,ti100, y0, decide_true]
  have y0' := z0 (by omega)
  try simp (disch := first | omega | (simp only [ints_length, List.length_replicate]; done) | (simp only [ints_length, List.length_replicate]; omega)) only [Sall,evalOp,init,binE,binI,unE,convE,okNil,builtE,gv,TD.isAgg,resV,↓reduceIte,Nat.reduceEqDiff,reduceCtorEq,Nat.reduceAdd,Nat.reduceMul,Nat.reduceLeDiff,quietOp,blindOp,Int.reduceEq,Int.reduceLT,Int.reduceLE,Nat.reduceLT,ti2,ti3,ti4,ti79,ti80,ti28,ti25,ti31,ti22,ti33,ti24,ti67,ti111,ti100, y0, decide_false, e0]
  have hL0 : (boR q0 n0 l0).length ≤ 4294967296 := by have := boR_length q0 n0 l0; omega
  refine (toSchedule_c q0 v0 n0 l0 H1 (h0.same (U1.le hs).row) (by omega)).ex ?_
  rintro u0 H2 ⟨up2, Fu0⟩
  have nx2 := up2.next
  have U2 : Up H.next H H2 := U1.trans up2 (by omega)
  replace e0 : H2.row H.next = some ⟨24, true, [.int .i64 q0, v0]⟩ := by rw [up2.row _ (by omega), e0]
  have Ou0 := Fu0.rd.one
  try simp (disch := first | omega | (simp only [ints_length, List.length_replicate]; done) | (simp only [ints_length, List.length_replicate]; omega)) only [Sall,evalOp,init,binE,binI,unE,convE,okNil,builtE,gv,TD.isAgg,resV,↓reduceIte,Nat.reduceEqDiff,reduceCtorEq,Nat.reduceAdd,Nat.reduceMul,Nat.reduceLeDiff,quietOp,blindOp,Int.reduceEq,Int.reduceLT,Int.reduceLE,Nat.reduceLT,ti2,ti3,ti4,ti79,ti80,ti28,ti25,ti31,ti22,ti33,ti24,ti67,ti111,ti100, e0, Ou0]
  refine (specBestOrder_c q0 u0 n0 l0 H2 Fu0.rd (by omega)).ex ?_
  rintro w0 H3 ⟨up3, Fw0⟩
  have nx3 := up3.next
  have U3 : Up H.next H H3 := U2.trans up3 (by omega)
  replace e0 : H3.row H.next = some ⟨24, true, [.int .i64 q0, v0]⟩ := by rw [up3.row _ (by omega), e0]
  replace Fu0 : Fr 14 80 H1.next H2.next H3 u0 n0 l0 := Fu0.same fun i _ hi => up3.row i (by omega)
  have Ow0 := Fw0.rd.one
  try simp (disch := first | omega | (simp only [ints_length, List.length_replicate]; done) | (simp only [ints_length, List.length_replicate]; omega)) only [Sall,evalOp,init,binE,binI,unE,convE,okNil,builtE,gv,TD.isAgg,resV,↓reduceIte,Nat.reduceEqDiff,reduceCtorEq,Nat.reduceAdd,Nat.reduceMul,Nat.reduceLeDiff,quietOp,blindOp,Int.reduceEq,Int.reduceLT,Int.reduceLE,Nat.reduceLT,ti2,ti3,ti4,ti79,ti80,ti28,ti25,ti31,ti22,ti33,ti24,ti67,ti111,ti100, e0, Ou0, Ow0]
  refine (toSchedule_c q0 v0 n0 l0 H3 (h0.same (U3.le hs).row) (by omega)).ex ?_
  rintro g0 H4 ⟨up4, Fg0⟩
  have nx4 := up4.next
  have U4 : Up H.next H H4 := U3.trans up4 (by omega)
  replace e0 : H4.row H.next = some ⟨24, true, [.int .i64 q0, v0]⟩ := by rw [up4.row _ (by omega), e0]
  replace Fw0 : Fr 1 2 H2.next H3.next H4 w0 _ _ := Fw0.same fun i _ hi => up4.row i (by omega)
  have Og0 := Fg0.rd.one
  try simp (disch := first | omega | (simp only [ints_length, List.length_replicate]; done) | (simp only [ints_length, List.length_replicate]; omega)) only [Sall,evalOp,init,binE,binI,unE,convE,okNil,builtE,gv,TD.isAgg,resV,↓reduceIte,Nat.reduceEqDiff,reduceCtorEq,Nat.reduceAdd,Nat.reduceMul,Nat.reduceLeDiff,quietOp,blindOp,Int.reduceEq,Int.reduceLT,Int.reduceLE,Nat.reduceLT,ti2,ti3,ti4,ti79,ti80,ti28,ti25,ti31,ti22,ti33,ti24,ti67,ti111,ti100, e0, Ou0, Ow0, Og0]
  obtain ⟨H5, eh⟩ : ∃ K, K = (H4.push ⟨33, true, [.int .i64 0, .slice none 0 0]⟩).setCells H4.next [.int .i64 q0, g0] := ⟨_, rfl⟩
  have up5 : Up H4.next H4 H5 := by rw [eh]; exact ((Up.refl _ _).push (Nat.le_refl _) _).set (Nat.le_refl _) _
  have E0 : H5.row H4.next = some ⟨33, true, [.int .i64 q0, g0]⟩ := by rw [eh, AH.setCells_row, if_pos rfl, AH.push_row, if_pos rfl]; rfl
  have nn5 : H5.next = H4.next + 1 := by rw [eh]; rfl
  rw [← eh]
  clear eh
  have nx5 := up5.next
  have U5 : Up H.next H H5 := U4.trans up5 (by omega)
  replace e0 : H5.row H.next = some ⟨24, true, [.int .i64 q0, v0]⟩ := by rw [up5.row _ (by omega), e0]
  replace Fw0 : Fr 1 2 H2.next H3.next H5 w0 _ _ := Fw0.same fun i _ hi => up5.row i (by omega)
  replace Fg0 : Fr 14 80 H3.next H4.next H5 g0 n0 l0 := Fg0.same fun i _ hi => up5.row i (by omega)
  try simp (disch := first | omega | (simp only [ints_length, List.length_replicate]; done) | (simp only [ints_length, List.length_replicate]; omega)) only [Sall,evalOp,init,binE,binI,unE,convE,okNil,builtE,gv,TD.isAgg,resV,↓reduceIte,Nat.reduceEqDiff,reduceCtorEq,Nat.reduceAdd,Nat.reduceMul,Nat.reduceLeDiff,quietOp,blindOp,Int.reduceEq,Int.reduceLT,Int.reduceLE,Nat.reduceLT,ti2,ti3,ti4,ti79,ti80,ti28,ti25,ti31,ti22,ti33,ti24,ti67,ti111,ti100, e0, E0, Ou0, Ow0, Og0]
  refine (BestOrder_c q0 g0 n0 l0 H5 Fg0.rd (by omega)).ex ?_
  rintro r0 H6 ⟨up6, Fr0⟩
  have nx6 := up6.next
  have U6 : Up H.next H H6 := U5.trans up6 (by omega)
  replace e0 : H6.row H.next = some ⟨24, true, [.int .i64 q0, v0]⟩ := by rw [up6.row _ (by omega), e0]
  replace E0 : H6.row H4.next = some ⟨33, true, [.int .i64 q0, g0]⟩ := by rw [up6.row _ (by omega), E0]
  replace Fw0 : Fr 1 2 H2.next H3.next H6 w0 _ _ := Fw0.same fun i _ hi => up6.row i (by omega)
  replace Fg0 : Fr 14 80 H3.next H4.next H6 g0 n0 l0 := Fg0.same fun i _ hi => up6.row i (by omega)
  have Or0 := Fr0.rd.one
  try simp (disch := first | omega | (simp only [ints_length, List.length_replicate]; done) | (simp only [ints_length, List.length_replicate]; omega)) only [Sall,evalOp,init,binE,binI,unE,convE,okNil,builtE,gv,TD.isAgg,resV,↓reduceIte,Nat.reduceEqDiff,reduceCtorEq,Nat.reduceAdd,Nat.reduceMul,Nat.reduceLeDiff,quietOp,blindOp,Int.reduceEq,Int.reduceLT,Int.reduceLE,Nat.reduceLT,ti2,ti3,ti4,ti79,ti80,ti28,ti25,ti31,ti22,ti33,ti24,ti67,ti111,ti100, e0, E0, Ou0, Ow0, Og0, Or0]
  refine (eqInt64S_c r0 w0 _ _ _ hL0 H6 Fr0.rd Fw0.rd).to ?_
  try simp (disch := first | omega | (simp only [ints_length, List.length_replicate]; done) | (simp only [ints_length, List.length_replicate]; omega)) only [Sall,evalOp,init,binE,binI,unE,convE,okNil,builtE,gv,TD.isAgg,resV,↓reduceIte,Nat.reduceEqDiff,reduceCtorEq,Nat.reduceAdd,Nat.reduceMul,Nat.reduceLeDiff,quietOp,blindOp,Int.reduceEq,Int.reduceLT,Int.reduceLE,Nat.reduceLT,ti2,ti3,ti4,ti79,ti80,ti28,ti25,ti31,ti22,ti33,ti24,ti67,ti111,ti100, Bool.not_true, bne_self_eq_false, e0, E0, Ou0, Ow0, Og0, Or0]
  refine draw_id (by kernel_rfl) (by kernel_rfl) ?_
  try simp (disch := first | omega | (simp only [ints_length, List.length_replicate]; done) | (simp only [ints_length, List.length_replicate]; omega)) only [Sall,evalOp,init,binE,binI,unE,convE,okNil,builtE,gv,TD.isAgg,resV,↓reduceIte,Nat.reduceEqDiff,reduceCtorEq,Nat.reduceAdd,Nat.reduceMul,Nat.reduceLeDiff,quietOp,blindOp,Int.reduceEq,Int.reduceLT,Int.reduceLE,Nat.reduceLT,ti2,ti3,ti4,ti79,ti80,ti28,ti25,ti31,ti22,ti33,ti24,ti67,ti111,ti100, e0, E0, Ou0, Ow0, Og0, Or0]
  refine ACalls.wf (by kernel_rfl) fun hs7 => (toSchedule_c q0 v0 n0 l0 H6 (h0.same (U6.le hs).row) (by omega)).ex ?_
  rintro t0 H7 ⟨up7, Ft0⟩
  refine ⟨.inr (.inr (up7.le hs7)), ?_⟩
  have nx7 := up7.next
  have U7 : Up H.next H H7 := U6.trans up7 (by omega)
  replace e0 : H7.row H.next = some ⟨24, true, [.int .i64 q0, v0]⟩ := by rw [up7.row _ (by omega), e0]
  replace E0 : H7.row H4.next = some ⟨33, true, [.int .i64 q0, g0]⟩ := by rw [up7.row _ (by omega), E0]
  replace Fw0 : Fr 1 2 H2.next H3.next H7 w0 _ _ := Fw0.same fun i _ hi => up7.row i (by omega)
  replace Fg0 : Fr 14 80 H3.next H4.next H7 g0 n0 l0 := Fg0.same fun i _ hi => up7.row i (by omega)
  replace Fr0 : Fr 1 2 H5.next H6.next H7 r0 _ _ := Fr0.same fun i _ hi => up7.row i (by omega)
  try simp (disch := first | omega | (simp only [ints_length, List.length_replicate]; done) | (simp only [ints_length, List.length_replicate]; omega)) only [Sall,evalOp,init,binE,binI,unE,convE,okNil,builtE,gv,TD.isAgg,resV,↓reduceIte,Nat.reduceEqDiff,reduceCtorEq,Nat.reduceAdd,Nat.reduceMul,Nat.reduceLeDiff,quietOp,blindOp,Int.reduceEq,Int.reduceLT,Int.reduceLE,Nat.reduceLT,ti2,ti3,ti4,ti79,ti80,ti28,ti25,ti31,ti22,ti33,ti24,ti67,ti111,ti100, e0, E0, Ou0, Ow0, Og0, Or0]
  refine (eqSchedule_c g0 t0 q0 n0 l0 (by omega) H7 Fg0.rd Ft0.rd Fg0.rd.one Ft0.rd.one).to ?_
  refine ⟨.inr (.inr (LE.refl _)), ?_⟩
  try simp (disch := first | omega | (simp only [ints_length, List.length_replicate]; done) | (simp only [ints_length, List.length_replicate]; omega)) only [Sall,evalOp,init,binE,binI,unE,convE,okNil,builtE,gv,TD.isAgg,resV,↓reduceIte,Nat.reduceEqDiff,reduceCtorEq,Nat.reduceAdd,Nat.reduceMul,Nat.reduceLeDiff,quietOp,blindOp,Int.reduceEq,Int.reduceLT,Int.reduceLE,Nat.reduceLT,ti2,ti3,ti4,ti79,ti80,ti28,ti25,ti31,ti22,ti33,ti24,ti67,ti111,ti100, Bool.not_true, e0, E0, Ou0, Ow0, Og0, Or0]
  try simp (disch := first | omega | (simp only [ints_length, List.length_replicate]; done) | (simp only [ints_length, List.length_replicate]; omega)) only [Sall,evalOp,init,binE,binI,unE,convE,okNil,builtE,gv,TD.isAgg,resV,↓reduceIte,Nat.reduceEqDiff,reduceCtorEq,Nat.reduceAdd,Nat.reduceMul,Nat.reduceLeDiff,quietOp,blindOp,Int.reduceEq,Int.reduceLT,Int.reduceLE,Nat.reduceLT,ti2,ti3,ti4,ti79,ti80,ti28,ti25,ti31,ti22,ti33,ti24,ti67,ti111,ti100, e0, E0, Ou0, Ow0, Og0, Or0]
  refine (markSchedule_c _ H3.next H4.next g0 q0 n0 l0 _ (by omega) (by omega) H7 Fg0 (by omega)).fin ?_
  rintro H8 ⟨nx8, sm8, KFg0⟩
  have U8 : Up H.next H H8 := ⟨by have := U7.next; omega, fun i hi => by rw [sm8 i (by omega) (by omega), U7.row i hi]⟩
  replace e0 : H8.row H.next = some ⟨24, true, [.int .i64 q0, v0]⟩ := by rw [sm8 _ (by omega) (by omega), e0]
  replace E0 : H8.row H4.next = some ⟨33, true, [.int .i64 q0, g0]⟩ := by rw [sm8 _ (by omega) (by omega), E0]
  replace Fw0 : Fr 1 2 H2.next H3.next H8 w0 _ _ := Fw0.same fun i _ hi => sm8 i (by omega) (by omega)
  replace Fr0 : Fr 1 2 H5.next H6.next H8 r0 _ _ := Fr0.same fun i _ hi => sm8 i (by omega) (by omega)
  try simp (disch := first | omega | (simp only [ints_length, List.length_replicate]; done) | (simp only [ints_length, List.length_replicate]; omega)) only [Sall,evalOp,init,binE,binI,unE,convE,okNil,builtE,gv,TD.isAgg,resV,↓reduceIte,Nat.reduceEqDiff,reduceCtorEq,Nat.reduceAdd,Nat.reduceMul,Nat.reduceLeDiff,quietOp,blindOp,Int.reduceEq,Int.reduceLT,Int.reduceLE,Nat.reduceLT,ti2,ti3,ti4,ti79,ti80,ti28,ti25,ti31,ti22,ti33,ti24,ti67,ti111,ti100, e0, E0, Ou0, Ow0, Og0, Or0]
  rw [decide_eq_false (by omega)]
  try simp (disch := first | omega | (simp only [ints_length, List.length_replicate]; done) | (simp only [ints_length, List.length_replicate]; omega)) only [Sall,evalOp,init,binE,binI,unE,convE,okNil,builtE,gv,TD.isAgg,resV,↓reduceIte,Nat.reduceEqDiff,reduceCtorEq,Nat.reduceAdd,Nat.reduceMul,Nat.reduceLeDiff,quietOp,blindOp,Int.reduceEq,Int.reduceLT,Int.reduceLE,Nat.reduceLT,ti2,ti3,ti4,ti79,ti80,ti28,ti25,ti31,ti22,ti33,ti24,ti67,ti111,ti100, e0, E0, Ou0, Ow0, Og0, Or0]
  refine (eqInt64S_c r0 w0 _ _ _ hL0 H8 Fr0.rd Fw0.rd).to ?_
  try simp (disch := first | omega | (simp only [ints_length, List.length_replicate]; done) | (simp only [ints_length, List.length_replicate]; omega)) only [Sall,evalOp,init,binE,binI,unE,convE,okNil,builtE,gv,TD.isAgg,resV,↓reduceIte,Nat.reduceEqDiff,reduceCtorEq,Nat.reduceAdd,Nat.reduceMul,Nat.reduceLeDiff,quietOp,blindOp,Int.reduceEq,Int.reduceLT,Int.reduceLE,Nat.reduceLT,ti2,ti3,ti4,ti79,ti80,ti28,ti25,ti31,ti22,ti33,ti24,ti67,ti111,ti100, Bool.not_true, bne_self_eq_false, e0, E0, Ou0, Ow0, Og0, Or0]
  refine (markInt64S_c _ H5.next H6.next r0 _ _ _ (by omega) (by omega) H8 Fr0).fin ?_
  rintro H9 ⟨nx9, sm9, KFr0⟩
  have U9 : Up H.next H H9 := ⟨by have := U8.next; omega, fun i hi => by rw [sm9 i (by omega), U8.row i hi]⟩
  replace e0 : H9.row H.next = some ⟨24, true, [.int .i64 q0, v0]⟩ := by rw [sm9 _ (by omega), e0]
  replace E0 : H9.row H4.next = some ⟨33, true, [.int .i64 q0, g0]⟩ := by rw [sm9 _ (by omega), E0]
  replace Fw0 : Fr 1 2 H2.next H3.next H9 w0 _ _ := Fw0.same fun i _ hi => sm9 i (by omega)
  try simp (disch := first | omega | (simp only [ints_length, List.length_replicate]; done) | (simp only [ints_length, List.length_replicate]; omega)) only [Sall,evalOp,init,binE,binI,unE,convE,okNil,builtE,gv,TD.isAgg,resV,↓reduceIte,Nat.reduceEqDiff,reduceCtorEq,Nat.reduceAdd,Nat.reduceMul,Nat.reduceLeDiff,quietOp,blindOp,Int.reduceEq,Int.reduceLT,Int.reduceLE,Nat.reduceLT,ti2,ti3,ti4,ti79,ti80,ti28,ti25,ti31,ti22,ti33,ti24,ti67,ti111,ti100, e0, E0, Ou0, Ow0, Og0, Or0]
  refine (heldInt64S_c r0 _ _ (by omega) (by omega) H9 KFr0.rd).to ?_
  try simp (disch := first | omega | (simp only [ints_length, List.length_replicate]; done) | (simp only [ints_length, List.length_replicate]; omega)) only [Sall,evalOp,init,binE,binI,unE,convE,okNil,builtE,gv,TD.isAgg,resV,↓reduceIte,Nat.reduceEqDiff,reduceCtorEq,Nat.reduceAdd,Nat.reduceMul,Nat.reduceLeDiff,quietOp,blindOp,Int.reduceEq,Int.reduceLT,Int.reduceLE,Nat.reduceLT,ti2,ti3,ti4,ti79,ti80,ti28,ti25,ti31,ti22,ti33,ti24,ti67,ti111,ti100, bne_self_eq_false, beq_self_eq_true, Bool.not_true, e0, E0, Ou0, Ow0, Og0, Or0]
  rw [decide_eq_false (by omega)]
  try simp (disch := first | omega | (simp only [ints_length, List.length_replicate]; done) | (simp only [ints_length, List.length_replicate]; omega)) only [Sall,evalOp,init,binE,binI,unE,convE,okNil,builtE,gv,TD.isAgg,resV,↓reduceIte,Nat.reduceEqDiff,reduceCtorEq,Nat.reduceAdd,Nat.reduceMul,Nat.reduceLeDiff,quietOp,blindOp,Int.reduceEq,Int.reduceLT,Int.reduceLE,Nat.reduceLT,ti2,ti3,ti4,ti79,ti80,ti28,ti25,ti31,ti22,ti33,ti24,ti67,ti111,ti100, bne_self_eq_false, beq_self_eq_true, Bool.not_true, e0, E0, Ou0, Ow0, Og0, Or0]
  refine (toSchedule_c q0 v0 n0 l0 H9 (h0.same (U9.le hs).row) (by omega)).ex ?_
  rintro x0 H10 ⟨up10, Fx0⟩
  have nx10 := up10.next
  have U10 : Up H.next H H10 := U9.trans up10 (by omega)
  replace e0 : H10.row H.next = some ⟨24, true, [.int .i64 q0, v0]⟩ := by rw [up10.row _ (by omega), e0]
  replace E0 : H10.row H4.next = some ⟨33, true, [.int .i64 q0, g0]⟩ := by rw [up10.row _ (by omega), E0]
  replace Fw0 : Fr 1 2 H2.next H3.next H10 w0 _ _ := Fw0.same fun i _ hi => up10.row i (by omega)
  replace KFr0 : Fr 1 2 H5.next H6.next H10 r0 _ _ := KFr0.same fun i _ hi => up10.row i (by omega)
  have Ox0 := Fx0.rd.one
  try simp (disch := first | omega | (simp only [ints_length, List.length_replicate]; done) | (simp only [ints_length, List.length_replicate]; omega)) only [Sall,evalOp,init,binE,binI,unE,convE,okNil,builtE,gv,TD.isAgg,resV,↓reduceIte,Nat.reduceEqDiff,reduceCtorEq,Nat.reduceAdd,Nat.reduceMul,Nat.reduceLeDiff,quietOp,blindOp,Int.reduceEq,Int.reduceLT,Int.reduceLE,Nat.reduceLT,ti2,ti3,ti4,ti79,ti80,ti28,ti25,ti31,ti22,ti33,ti24,ti67,ti111,ti100, e0, E0, Ou0, Ow0, Og0, Or0, Ox0]
  refine (BestOrder_c q0 x0 n0 l0 H10 Fx0.rd (by omega)).ex ?_
  rintro s0 H11 ⟨up11, Fs0⟩
  have nx11 := up11.next
  have U11 : Up H.next H H11 := U10.trans up11 (by omega)
  replace e0 : H11.row H.next = some ⟨24, true, [.int .i64 q0, v0]⟩ := by rw [up11.row _ (by omega), e0]
  replace E0 : H11.row H4.next = some ⟨33, true, [.int .i64 q0, g0]⟩ := by rw [up11.row _ (by omega), E0]
  replace Fw0 : Fr 1 2 H2.next H3.next H11 w0 _ _ := Fw0.same fun i _ hi => up11.row i (by omega)
  replace KFr0 : Fr 1 2 H5.next H6.next H11 r0 _ _ := KFr0.same fun i _ hi => up11.row i (by omega)
  replace Fx0 : Fr 14 80 H9.next H10.next H11 x0 n0 l0 := Fx0.same fun i _ hi => up11.row i (by omega)
  have Os0 := Fs0.rd.one
  try simp (disch := first | omega | (simp only [ints_length, List.length_replicate]; done) | (simp only [ints_length, List.length_replicate]; omega)) only [Sall,evalOp,init,binE,binI,unE,convE,okNil,builtE,gv,TD.isAgg,resV,↓reduceIte,Nat.reduceEqDiff,reduceCtorEq,Nat.reduceAdd,Nat.reduceMul,Nat.reduceLeDiff,quietOp,blindOp,Int.reduceEq,Int.reduceLT,Int.reduceLE,Nat.reduceLT,ti2,ti3,ti4,ti79,ti80,ti28,ti25,ti31,ti22,ti33,ti24,ti67,ti111,ti100, e0, E0, Ou0, Ow0, Og0, Or0, Ox0, Os0]
  refine (eqInt64S_c s0 w0 _ _ _ hL0 H11 Fs0.rd Fw0.rd).to ?_
  try simp (disch := first | omega | (simp only [ints_length, List.length_replicate]; done) | (simp only [ints_length, List.length_replicate]; omega)) only [Sall,evalOp,init,binE,binI,unE,convE,okNil,builtE,gv,TD.isAgg,resV,↓reduceIte,Nat.reduceEqDiff,reduceCtorEq,Nat.reduceAdd,Nat.reduceMul,Nat.reduceLeDiff,quietOp,blindOp,Int.reduceEq,Int.reduceLT,Int.reduceLE,Nat.reduceLT,ti2,ti3,ti4,ti79,ti80,ti28,ti25,ti31,ti22,ti33,ti24,ti67,ti111,ti100, Bool.not_true, bne_self_eq_false, e0, E0, Ou0, Ow0, Og0, Or0, Ox0, Os0]
  refine (heldInt64S_c r0 _ _ (by omega) (by omega) H11 KFr0.rd).to ?_
  try simp (disch := first | omega | (simp only [ints_length, List.length_replicate]; done) | (simp only [ints_length, List.length_replicate]; omega)) only [Sall,evalOp,init,binE,binI,unE,convE,okNil,builtE,gv,TD.isAgg,resV,↓reduceIte,Nat.reduceEqDiff,reduceCtorEq,Nat.reduceAdd,Nat.reduceMul,Nat.reduceLeDiff,quietOp,blindOp,Int.reduceEq,Int.reduceLT,Int.reduceLE,Nat.reduceLT,ti2,ti3,ti4,ti79,ti80,ti28,ti25,ti31,ti22,ti33,ti24,ti67,ti111,ti100, bne_self_eq_false, beq_self_eq_true, Bool.not_true, e0, E0, Ou0, Ow0, Og0, Or0, Ox0, Os0]
  rw [decide_eq_false (by omega)]
  try simp (disch := first | omega | (simp only [ints_length, List.length_replicate]; done) | (simp only [ints_length, List.length_replicate]; omega)) only [Sall,evalOp,init,binE,binI,unE,convE,okNil,builtE,gv,TD.isAgg,resV,↓reduceIte,Nat.reduceEqDiff,reduceCtorEq,Nat.reduceAdd,Nat.reduceMul,Nat.reduceLeDiff,quietOp,blindOp,Int.reduceEq,Int.reduceLT,Int.reduceLE,Nat.reduceLT,ti2,ti3,ti4,ti79,ti80,ti28,ti25,ti31,ti22,ti33,ti24,ti67,ti111,ti100, bne_self_eq_false, beq_self_eq_true, Bool.not_true, e0, E0, Ou0, Ow0, Og0, Or0, Ox0, Os0]
end Go.Proofs.Ytbmpkihggipciaa.A
