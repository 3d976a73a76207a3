/- The walk of the law of PartnersOf. And what follows. -/
import Derived.Test.YtnpmidgikbbnbaaM4
section
set_option linter.unusedSimpArgs false
set_option linter.unusedVariables false
set_option maxRecDepth 100000
namespace Go.Proofs.Ytnpmidgikbbnbaa.A
open Go Go.Abs Go.RowKit

theorem law_PartnersOf_c (q0 : Int) (v0 : Value) (ll0 : List (List Int)) (H : AH) (h0 : Rd2 1 H v0 ll0) (b0 : ll0.length ≤ 9223372036854775807) (c0 : ∀ y ∈ ll0, y.length ≤ 9223372036854775807) :
    ACalls Try.prog 3 [.agg #[.int .i64 q0, v0]] H (fun v _ => v = .bool true ∧ True) := by
  refine ACalls.wf (by kernel_rfl) fun hs => acalls_of_awp [.tmp 2] Try.func3 (by kernel_rfl) rfl rfl (Nat.le_of_ble_eq_true rfl) (by kernel_rfl) ?_
  have o0 := h0.one
  try simp (disch := first | omega | (simp only [ints_length, List.length_replicate]; done) | (simp only [ints_length, List.length_replicate]; omega)) only [Sall,evalOp,init,binE,binI,unE,convE,okNil,builtE,gv,TD.isAgg,resV,↓reduceIte,Nat.reduceEqDiff,reduceCtorEq,Nat.reduceAdd,Nat.reduceMul,Nat.reduceLeDiff,quietOp,blindOp,Int.reduceEq,Int.reduceLT,Int.reduceLE,Nat.reduceLT,ti2,ti3,ti4,ti41,ti42,ti62,ti22,ti45,ti37,ti47,ti39,ti74,ti138,ti101,ti103,ti108,ti24,ti28,ti96, o0]
  obtain ⟨H1, eH1⟩ : ∃ H1, H1 = (H.push ⟨24, true, [.int .i64 q0, v0]⟩) := ⟨_, rfl⟩
  have nx1 : H1.next = H.next + 1 := by rw [eH1]; rfl
  have U1 : Up H.next H H1 := by rw [eH1]; exact ((Up.refl _ H).push (by first | omega | (simp only [AH.push_next]; omega)) _)
  have e0 : H1.row H.next = some ⟨24, true, [.int .i64 q0, v0]⟩ := by rw [eH1]; simp [AH.push_row, AH.push_next]
  rw [← eH1]
  clear eH1
  refine (szEvening_c q0 v0 ll0 _ H1 (h0.same (U1.le hs).row) (by omega) b0 c0).ex ?_
  rintro x0 H2 ⟨up2, z0⟩
  have nx2 := up2.next
  have U2 : Up H.next H H2 := U1.trans up2 (by omega)
  replace e0 : H2.row H.next = some ⟨24, true, [.int .i64 q0, v0]⟩ := by rw [up2.row _ (by omega), e0]
  refine Holds.mp ?_
  by_cases y0 : x0 < 0
  · try simp (disch := first | omega | (simp only [ints_length, List.length_replicate]; done) | (simp only [ints_length, List.length_replicate]; omega)) only [Sall,evalOp,init,binE,binI,unE,convE,okNil,builtE,gv,TD.isAgg,resV,↓reduceIte,Nat.reduceEqDiff,reduceCtorEq,Nat.reduceAdd,Nat.reduceMul,Nat.reduceLeDiff,quietOp,blindOp,Int.reduceEq,Int.reduceLT,Int.reduceLE,Nat.reduceLT,ti2,ti3,ti4,ti41,ti42,ti62,ti22,ti45,ti37,ti47,ti39,ti74,ti138,ti101,ti103,ti108,ti24,ti28,ti96, y0, decide_true]
  have y0' := z0 (by omega)
  try simp (disch := first | omega | (simp only [ints_length, List.length_replicate]; done) | (simp only [ints_length, List.length_replicate]; omega)) only [Sall,evalOp,init,binE,binI,unE,convE,okNil,builtE,gv,TD.isAgg,resV,↓reduceIte,Nat.reduceEqDiff,reduceCtorEq,Nat.reduceAdd,Nat.reduceMul,Nat.reduceLeDiff,quietOp,blindOp,Int.reduceEq,Int.reduceLT,Int.reduceLE,Nat.reduceLT,ti2,ti3,ti4,ti41,ti42,ti62,ti22,ti45,ti37,ti47,ti39,ti74,ti138,ti101,ti103,ti108,ti24,ti28,ti96, y0, decide_false, e0]
  have d0 : ∀ y ∈ ll0, y.length ≤ 1048576 := fun y hy => by have := tot_mem hy; omega
  obtain ⟨hL00, hT0, hM00⟩ := poL_len q0 ll0
  have hL0 : (poL q0 ll0).length ≤ 4294967296 := by omega
  have hM0 : ∀ y ∈ (poL q0 ll0), y.length ≤ 4294967296 := fun y hy => by have := hM00 y hy; omega
  refine (toEvening_c q0 v0 ll0 H2 (h0.same (U2.le hs).row) (by omega) (fun y hy => by have := d0 y hy; omega)).ex ?_
  rintro u0 H3 ⟨up3, Fu0⟩
  have nx3 := up3.next
  have U3 : Up H.next H H3 := U2.trans up3 (by omega)
  replace e0 : H3.row H.next = some ⟨24, true, [.int .i64 q0, v0]⟩ := by rw [up3.row _ (by omega), e0]
  have Ou0 := Fu0.rd.one
  try simp (disch := first | omega | (simp only [ints_length, List.length_replicate]; done) | (simp only [ints_length, List.length_replicate]; omega)) only [Sall,evalOp,init,binE,binI,unE,convE,okNil,builtE,gv,TD.isAgg,resV,↓reduceIte,Nat.reduceEqDiff,reduceCtorEq,Nat.reduceAdd,Nat.reduceMul,Nat.reduceLeDiff,quietOp,blindOp,Int.reduceEq,Int.reduceLT,Int.reduceLE,Nat.reduceLT,ti2,ti3,ti4,ti41,ti42,ti62,ti22,ti45,ti37,ti47,ti39,ti74,ti138,ti101,ti103,ti108,ti24,ti28,ti96, e0, Ou0]
  refine (specPartnersOf_c q0 u0 ll0 H3 Fu0.rd (by omega) (fun y hy => by have := d0 y hy; omega)).ex ?_
  rintro w0 H4 ⟨up4, Fw0⟩
  have nx4 := up4.next
  have U4 : Up H.next H H4 := U3.trans up4 (by omega)
  replace e0 : H4.row H.next = some ⟨24, true, [.int .i64 q0, v0]⟩ := by rw [up4.row _ (by omega), e0]
  replace Fu0 : Fr2 1 62 2 H2.next H3.next H4 u0 ll0 := Fu0.same fun i _ hi => up4.row i (by omega)
  have Ow0 := Fw0.rd.one
  try simp (disch := first | omega | (simp only [ints_length, List.length_replicate]; done) | (simp only [ints_length, List.length_replicate]; omega)) only [Sall,evalOp,init,binE,binI,unE,convE,okNil,builtE,gv,TD.isAgg,resV,↓reduceIte,Nat.reduceEqDiff,reduceCtorEq,Nat.reduceAdd,Nat.reduceMul,Nat.reduceLeDiff,quietOp,blindOp,Int.reduceEq,Int.reduceLT,Int.reduceLE,Nat.reduceLT,ti2,ti3,ti4,ti41,ti42,ti62,ti22,ti45,ti37,ti47,ti39,ti74,ti138,ti101,ti103,ti108,ti24,ti28,ti96, e0, Ou0, Ow0]
  refine (toEvening_c q0 v0 ll0 H4 (h0.same (U4.le hs).row) (by omega) (fun y hy => by have := d0 y hy; omega)).ex ?_
  rintro g0 H5 ⟨up5, Fg0⟩
  have nx5 := up5.next
  have U5 : Up H.next H H5 := U4.trans up5 (by omega)
  replace e0 : H5.row H.next = some ⟨24, true, [.int .i64 q0, v0]⟩ := by rw [up5.row _ (by omega), e0]
  replace Fw0 : Fr2 1 62 2 H3.next H4.next H5 w0 _ := Fw0.same fun i _ hi => up5.row i (by omega)
  have Og0 := Fg0.rd.one
  try simp (disch := first | omega | (simp only [ints_length, List.length_replicate]; done) | (simp only [ints_length, List.length_replicate]; omega)) only [Sall,evalOp,init,binE,binI,unE,convE,okNil,builtE,gv,TD.isAgg,resV,↓reduceIte,Nat.reduceEqDiff,reduceCtorEq,Nat.reduceAdd,Nat.reduceMul,Nat.reduceLeDiff,quietOp,blindOp,Int.reduceEq,Int.reduceLT,Int.reduceLE,Nat.reduceLT,ti2,ti3,ti4,ti41,ti42,ti62,ti22,ti45,ti37,ti47,ti39,ti74,ti138,ti101,ti103,ti108,ti24,ti28,ti96, e0, Ou0, Ow0, Og0]
  obtain ⟨H6, eh⟩ : ∃ K, K = (H5.push ⟨28, true, [.int .i64 0, .slice none 0 0]⟩).setCells H5.next [.int .i64 q0, g0] := ⟨_, rfl⟩
  have up6 : Up H5.next H5 H6 := by rw [eh]; exact ((Up.refl _ _).push (Nat.le_refl _) _).set (Nat.le_refl _) _
  have E0 : H6.row H5.next = some ⟨28, true, [.int .i64 q0, g0]⟩ := by rw [eh, AH.setCells_row, if_pos rfl, AH.push_row, if_pos rfl]; rfl
  have nn6 : H6.next = H5.next + 1 := by rw [eh]; rfl
  rw [← eh]
  clear eh
  have nx6 := up6.next
  have U6 : Up H.next H H6 := U5.trans up6 (by omega)
  replace e0 : H6.row H.next = some ⟨24, true, [.int .i64 q0, v0]⟩ := by rw [up6.row _ (by omega), e0]
  replace Fw0 : Fr2 1 62 2 H3.next H4.next H6 w0 _ := Fw0.same fun i _ hi => up6.row i (by omega)
  replace Fg0 : Fr2 1 62 2 H4.next H5.next H6 g0 ll0 := Fg0.same fun i _ hi => up6.row i (by omega)
  try simp (disch := first | omega | (simp only [ints_length, List.length_replicate]; done) | (simp only [ints_length, List.length_replicate]; omega)) only [Sall,evalOp,init,binE,binI,unE,convE,okNil,builtE,gv,TD.isAgg,resV,↓reduceIte,Nat.reduceEqDiff,reduceCtorEq,Nat.reduceAdd,Nat.reduceMul,Nat.reduceLeDiff,quietOp,blindOp,Int.reduceEq,Int.reduceLT,Int.reduceLE,Nat.reduceLT,ti2,ti3,ti4,ti41,ti42,ti62,ti22,ti45,ti37,ti47,ti39,ti74,ti138,ti101,ti103,ti108,ti24,ti28,ti96, e0, E0, Ou0, Ow0, Og0]
  refine (PartnersOf_c q0 g0 ll0 H6 Fg0.rd (by omega) (fun y hy => by have := d0 y hy; omega)).ex ?_
  rintro r0 H7 ⟨up7, Fr0⟩
  have nx7 := up7.next
  have U7 : Up H.next H H7 := U6.trans up7 (by omega)
  replace e0 : H7.row H.next = some ⟨24, true, [.int .i64 q0, v0]⟩ := by rw [up7.row _ (by omega), e0]
  replace E0 : H7.row H5.next = some ⟨28, true, [.int .i64 q0, g0]⟩ := by rw [up7.row _ (by omega), E0]
  replace Fw0 : Fr2 1 62 2 H3.next H4.next H7 w0 _ := Fw0.same fun i _ hi => up7.row i (by omega)
  replace Fg0 : Fr2 1 62 2 H4.next H5.next H7 g0 ll0 := Fg0.same fun i _ hi => up7.row i (by omega)
  have Or0 := Fr0.rd.one
  try simp (disch := first | omega | (simp only [ints_length, List.length_replicate]; done) | (simp only [ints_length, List.length_replicate]; omega)) only [Sall,evalOp,init,binE,binI,unE,convE,okNil,builtE,gv,TD.isAgg,resV,↓reduceIte,Nat.reduceEqDiff,reduceCtorEq,Nat.reduceAdd,Nat.reduceMul,Nat.reduceLeDiff,quietOp,blindOp,Int.reduceEq,Int.reduceLT,Int.reduceLE,Nat.reduceLT,ti2,ti3,ti4,ti41,ti42,ti62,ti22,ti45,ti37,ti47,ti39,ti74,ti138,ti101,ti103,ti108,ti24,ti28,ti96, e0, E0, Ou0, Ow0, Og0, Or0]
  refine (eqInt64SS_c r0 w0 _ hL0 hM0 H7 Fr0.rd Fw0.rd).to ?_
  try simp (disch := first | omega | (simp only [ints_length, List.length_replicate]; done) | (simp only [ints_length, List.length_replicate]; omega)) only [Sall,evalOp,init,binE,binI,unE,convE,okNil,builtE,gv,TD.isAgg,resV,↓reduceIte,Nat.reduceEqDiff,reduceCtorEq,Nat.reduceAdd,Nat.reduceMul,Nat.reduceLeDiff,quietOp,blindOp,Int.reduceEq,Int.reduceLT,Int.reduceLE,Nat.reduceLT,ti2,ti3,ti4,ti41,ti42,ti62,ti22,ti45,ti37,ti47,ti39,ti74,ti138,ti101,ti103,ti108,ti24,ti28,ti96, Bool.not_true, bne_self_eq_false, e0, E0, Ou0, Ow0, Og0, Or0]
  refine draw_id (by kernel_rfl) (by kernel_rfl) ?_
  try simp (disch := first | omega | (simp only [ints_length, List.length_replicate]; done) | (simp only [ints_length, List.length_replicate]; omega)) only [Sall,evalOp,init,binE,binI,unE,convE,okNil,builtE,gv,TD.isAgg,resV,↓reduceIte,Nat.reduceEqDiff,reduceCtorEq,Nat.reduceAdd,Nat.reduceMul,Nat.reduceLeDiff,quietOp,blindOp,Int.reduceEq,Int.reduceLT,Int.reduceLE,Nat.reduceLT,ti2,ti3,ti4,ti41,ti42,ti62,ti22,ti45,ti37,ti47,ti39,ti74,ti138,ti101,ti103,ti108,ti24,ti28,ti96, e0, E0, Ou0, Ow0, Og0, Or0]
  refine ACalls.wf (by kernel_rfl) fun hs8 => (toEvening_c q0 v0 ll0 H7 (h0.same (U7.le hs).row) (by omega) (fun y hy => by have := d0 y hy; omega)).ex ?_
  rintro t0 H8 ⟨up8, Ft0⟩
  refine ⟨.inr (.inr (up8.le hs8)), ?_⟩
  have nx8 := up8.next
  have U8 : Up H.next H H8 := U7.trans up8 (by omega)
  replace e0 : H8.row H.next = some ⟨24, true, [.int .i64 q0, v0]⟩ := by rw [up8.row _ (by omega), e0]
  replace E0 : H8.row H5.next = some ⟨28, true, [.int .i64 q0, g0]⟩ := by rw [up8.row _ (by omega), E0]
  replace Fw0 : Fr2 1 62 2 H3.next H4.next H8 w0 _ := Fw0.same fun i _ hi => up8.row i (by omega)
  replace Fg0 : Fr2 1 62 2 H4.next H5.next H8 g0 ll0 := Fg0.same fun i _ hi => up8.row i (by omega)
  replace Fr0 : Fr2 1 62 2 H6.next H7.next H8 r0 _ := Fr0.same fun i _ hi => up8.row i (by omega)
  try simp (disch := first | omega | (simp only [ints_length, List.length_replicate]; done) | (simp only [ints_length, List.length_replicate]; omega)) only [Sall,evalOp,init,binE,binI,unE,convE,okNil,builtE,gv,TD.isAgg,resV,↓reduceIte,Nat.reduceEqDiff,reduceCtorEq,Nat.reduceAdd,Nat.reduceMul,Nat.reduceLeDiff,quietOp,blindOp,Int.reduceEq,Int.reduceLT,Int.reduceLE,Nat.reduceLT,ti2,ti3,ti4,ti41,ti42,ti62,ti22,ti45,ti37,ti47,ti39,ti74,ti138,ti101,ti103,ti108,ti24,ti28,ti96, e0, E0, Ou0, Ow0, Og0, Or0]
  refine (eqEvening_c g0 t0 q0 ll0 (by omega) (fun y hy => by have := d0 y hy; omega) H8 Fg0.rd Ft0.rd Fg0.rd.one Ft0.rd.one).to ?_
  refine ⟨.inr (.inr (LE.refl _)), ?_⟩
  try simp (disch := first | omega | (simp only [ints_length, List.length_replicate]; done) | (simp only [ints_length, List.length_replicate]; omega)) only [Sall,evalOp,init,binE,binI,unE,convE,okNil,builtE,gv,TD.isAgg,resV,↓reduceIte,Nat.reduceEqDiff,reduceCtorEq,Nat.reduceAdd,Nat.reduceMul,Nat.reduceLeDiff,quietOp,blindOp,Int.reduceEq,Int.reduceLT,Int.reduceLE,Nat.reduceLT,ti2,ti3,ti4,ti41,ti42,ti62,ti22,ti45,ti37,ti47,ti39,ti74,ti138,ti101,ti103,ti108,ti24,ti28,ti96, Bool.not_true, e0, E0, Ou0, Ow0, Og0, Or0]
  try simp (disch := first | omega | (simp only [ints_length, List.length_replicate]; done) | (simp only [ints_length, List.length_replicate]; omega)) only [Sall,evalOp,init,binE,binI,unE,convE,okNil,builtE,gv,TD.isAgg,resV,↓reduceIte,Nat.reduceEqDiff,reduceCtorEq,Nat.reduceAdd,Nat.reduceMul,Nat.reduceLeDiff,quietOp,blindOp,Int.reduceEq,Int.reduceLT,Int.reduceLE,Nat.reduceLT,ti2,ti3,ti4,ti41,ti42,ti62,ti22,ti45,ti37,ti47,ti39,ti74,ti138,ti101,ti103,ti108,ti24,ti28,ti96, e0, E0, Ou0, Ow0, Og0, Or0]
  refine (markEvening_c _ _ H4.next H5.next g0 q0 ll0 _ (by omega) (by omega) (by omega) H8 Fg0 (by omega)).fin ?_
  rintro H9 ⟨nx9, sm9, KFg0⟩
  have U9 : Up H.next H H9 := ⟨by have := U8.next; omega, fun i hi => by rw [sm9 i (by omega) (by omega), U8.row i hi]⟩
  replace e0 : H9.row H.next = some ⟨24, true, [.int .i64 q0, v0]⟩ := by rw [sm9 _ (by omega) (by omega), e0]
  replace E0 : H9.row H5.next = some ⟨28, true, [.int .i64 q0, g0]⟩ := by rw [sm9 _ (by omega) (by omega), E0]
  replace Fw0 : Fr2 1 62 2 H3.next H4.next H9 w0 _ := Fw0.same fun i _ hi => sm9 i (by omega) (by omega)
  replace Fr0 : Fr2 1 62 2 H6.next H7.next H9 r0 _ := Fr0.same fun i _ hi => sm9 i (by omega) (by omega)
  try simp (disch := first | omega | (simp only [ints_length, List.length_replicate]; done) | (simp only [ints_length, List.length_replicate]; omega)) only [Sall,evalOp,init,binE,binI,unE,convE,okNil,builtE,gv,TD.isAgg,resV,↓reduceIte,Nat.reduceEqDiff,reduceCtorEq,Nat.reduceAdd,Nat.reduceMul,Nat.reduceLeDiff,quietOp,blindOp,Int.reduceEq,Int.reduceLT,Int.reduceLE,Nat.reduceLT,ti2,ti3,ti4,ti41,ti42,ti62,ti22,ti45,ti37,ti47,ti39,ti74,ti138,ti101,ti103,ti108,ti24,ti28,ti96, e0, E0, Ou0, Ow0, Og0, Or0]
  rw [decide_eq_false (by omega)]
  try simp (disch := first | omega | (simp only [ints_length, List.length_replicate]; done) | (simp only [ints_length, List.length_replicate]; omega)) only [Sall,evalOp,init,binE,binI,unE,convE,okNil,builtE,gv,TD.isAgg,resV,↓reduceIte,Nat.reduceEqDiff,reduceCtorEq,Nat.reduceAdd,Nat.reduceMul,Nat.reduceLeDiff,quietOp,blindOp,Int.reduceEq,Int.reduceLT,Int.reduceLE,Nat.reduceLT,ti2,ti3,ti4,ti41,ti42,ti62,ti22,ti45,ti37,ti47,ti39,ti74,ti138,ti101,ti103,ti108,ti24,ti28,ti96, e0, E0, Ou0, Ow0, Og0, Or0]
  refine (eqInt64SS_c r0 w0 _ hL0 hM0 H9 Fr0.rd Fw0.rd).to ?_
  try simp (disch := first | omega | (simp only [ints_length, List.length_replicate]; done) | (simp only [ints_length, List.length_replicate]; omega)) only [Sall,evalOp,init,binE,binI,unE,convE,okNil,builtE,gv,TD.isAgg,resV,↓reduceIte,Nat.reduceEqDiff,reduceCtorEq,Nat.reduceAdd,Nat.reduceMul,Nat.reduceLeDiff,quietOp,blindOp,Int.reduceEq,Int.reduceLT,Int.reduceLE,Nat.reduceLT,ti2,ti3,ti4,ti41,ti42,ti62,ti22,ti45,ti37,ti47,ti39,ti74,ti138,ti101,ti103,ti108,ti24,ti28,ti96, Bool.not_true, bne_self_eq_false, e0, E0, Ou0, Ow0, Og0, Or0]
  refine (markInt64SS_c _ _ H6.next H7.next r0 _ _ (by omega) (by omega) (by omega) H9 Fr0).fin ?_
  rintro H10 ⟨nx10, sm10, KFr0⟩
  have U10 : Up H.next H H10 := ⟨by have := U9.next; omega, fun i hi => by rw [sm10 i (by omega), U9.row i hi]⟩
  replace e0 : H10.row H.next = some ⟨24, true, [.int .i64 q0, v0]⟩ := by rw [sm10 _ (by omega), e0]
  replace E0 : H10.row H5.next = some ⟨28, true, [.int .i64 q0, g0]⟩ := by rw [sm10 _ (by omega), E0]
  replace Fw0 : Fr2 1 62 2 H3.next H4.next H10 w0 _ := Fw0.same fun i _ hi => sm10 i (by omega)
  try simp (disch := first | omega | (simp only [ints_length, List.length_replicate]; done) | (simp only [ints_length, List.length_replicate]; omega)) only [Sall,evalOp,init,binE,binI,unE,convE,okNil,builtE,gv,TD.isAgg,resV,↓reduceIte,Nat.reduceEqDiff,reduceCtorEq,Nat.reduceAdd,Nat.reduceMul,Nat.reduceLeDiff,quietOp,blindOp,Int.reduceEq,Int.reduceLT,Int.reduceLE,Nat.reduceLT,ti2,ti3,ti4,ti41,ti42,ti62,ti22,ti45,ti37,ti47,ti39,ti74,ti138,ti101,ti103,ti108,ti24,ti28,ti96, e0, E0, Ou0, Ow0, Og0, Or0]
  refine (heldInt64SS_c r0 _ _ (by omega) (by omega) (by omega) H10 KFr0.rd).to ?_
  try simp (disch := first | omega | (simp only [ints_length, List.length_replicate]; done) | (simp only [ints_length, List.length_replicate]; omega)) only [Sall,evalOp,init,binE,binI,unE,convE,okNil,builtE,gv,TD.isAgg,resV,↓reduceIte,Nat.reduceEqDiff,reduceCtorEq,Nat.reduceAdd,Nat.reduceMul,Nat.reduceLeDiff,quietOp,blindOp,Int.reduceEq,Int.reduceLT,Int.reduceLE,Nat.reduceLT,ti2,ti3,ti4,ti41,ti42,ti62,ti22,ti45,ti37,ti47,ti39,ti74,ti138,ti101,ti103,ti108,ti24,ti28,ti96, bne_self_eq_false, beq_self_eq_true, Bool.not_true, e0, E0, Ou0, Ow0, Og0, Or0]
  rw [decide_eq_false (by omega)]
  try simp (disch := first | omega | (simp only [ints_length, List.length_replicate]; done) | (simp only [ints_length, List.length_replicate]; omega)) only [Sall,evalOp,init,binE,binI,unE,convE,okNil,builtE,gv,TD.isAgg,resV,↓reduceIte,Nat.reduceEqDiff,reduceCtorEq,Nat.reduceAdd,Nat.reduceMul,Nat.reduceLeDiff,quietOp,blindOp,Int.reduceEq,Int.reduceLT,Int.reduceLE,Nat.reduceLT,ti2,ti3,ti4,ti41,ti42,ti62,ti22,ti45,ti37,ti47,ti39,ti74,ti138,ti101,ti103,ti108,ti24,ti28,ti96, bne_self_eq_false, beq_self_eq_true, Bool.not_true, e0, E0, Ou0, Ow0, Og0, Or0]
  refine (toEvening_c q0 v0 ll0 H10 (h0.same (U10.le hs).row) (by omega) (fun y hy => by have := d0 y hy; omega)).ex ?_
  rintro x0 H11 ⟨up11, Fx0⟩
  have nx11 := up11.next
  have U11 : Up H.next H H11 := U10.trans up11 (by omega)
  replace e0 : H11.row H.next = some ⟨24, true, [.int .i64 q0, v0]⟩ := by rw [up11.row _ (by omega), e0]
  replace E0 : H11.row H5.next = some ⟨28, true, [.int .i64 q0, g0]⟩ := by rw [up11.row _ (by omega), E0]
  replace Fw0 : Fr2 1 62 2 H3.next H4.next H11 w0 _ := Fw0.same fun i _ hi => up11.row i (by omega)
  replace KFr0 : Fr2 1 62 2 H6.next H7.next H11 r0 _ := KFr0.same fun i _ hi => up11.row i (by omega)
  have Ox0 := Fx0.rd.one
  try simp (disch := first | omega | (simp only [ints_length, List.length_replicate]; done) | (simp only [ints_length, List.length_replicate]; omega)) only [Sall,evalOp,init,binE,binI,unE,convE,okNil,builtE,gv,TD.isAgg,resV,↓reduceIte,Nat.reduceEqDiff,reduceCtorEq,Nat.reduceAdd,Nat.reduceMul,Nat.reduceLeDiff,quietOp,blindOp,Int.reduceEq,Int.reduceLT,Int.reduceLE,Nat.reduceLT,ti2,ti3,ti4,ti41,ti42,ti62,ti22,ti45,ti37,ti47,ti39,ti74,ti138,ti101,ti103,ti108,ti24,ti28,ti96, e0, E0, Ou0, Ow0, Og0, Or0, Ox0]
  refine (PartnersOf_c q0 x0 ll0 H11 Fx0.rd (by omega) (fun y hy => by have := d0 y hy; omega)).ex ?_
  rintro s0 H12 ⟨up12, Fs0⟩
  have nx12 := up12.next
  have U12 : Up H.next H H12 := U11.trans up12 (by omega)
  replace e0 : H12.row H.next = some ⟨24, true, [.int .i64 q0, v0]⟩ := by rw [up12.row _ (by omega), e0]
  replace E0 : H12.row H5.next = some ⟨28, true, [.int .i64 q0, g0]⟩ := by rw [up12.row _ (by omega), E0]
  replace Fw0 : Fr2 1 62 2 H3.next H4.next H12 w0 _ := Fw0.same fun i _ hi => up12.row i (by omega)
  replace KFr0 : Fr2 1 62 2 H6.next H7.next H12 r0 _ := KFr0.same fun i _ hi => up12.row i (by omega)
  replace Fx0 : Fr2 1 62 2 H10.next H11.next H12 x0 ll0 := Fx0.same fun i _ hi => up12.row i (by omega)
  have Os0 := Fs0.rd.one
  try simp (disch := first | omega | (simp only [ints_length, List.length_replicate]; done) | (simp only [ints_length, List.length_replicate]; omega)) only [Sall,evalOp,init,binE,binI,unE,convE,okNil,builtE,gv,TD.isAgg,resV,↓reduceIte,Nat.reduceEqDiff,reduceCtorEq,Nat.reduceAdd,Nat.reduceMul,Nat.reduceLeDiff,quietOp,blindOp,Int.reduceEq,Int.reduceLT,Int.reduceLE,Nat.reduceLT,ti2,ti3,ti4,ti41,ti42,ti62,ti22,ti45,ti37,ti47,ti39,ti74,ti138,ti101,ti103,ti108,ti24,ti28,ti96, e0, E0, Ou0, Ow0, Og0, Or0, Ox0, Os0]
  refine (eqInt64SS_c s0 w0 _ hL0 hM0 H12 Fs0.rd Fw0.rd).to ?_
  try simp (disch := first | omega | (simp only [ints_length, List.length_replicate]; done) | (simp only [ints_length, List.length_replicate]; omega)) only [Sall,evalOp,init,binE,binI,unE,convE,okNil,builtE,gv,TD.isAgg,resV,↓reduceIte,Nat.reduceEqDiff,reduceCtorEq,Nat.reduceAdd,Nat.reduceMul,Nat.reduceLeDiff,quietOp,blindOp,Int.reduceEq,Int.reduceLT,Int.reduceLE,Nat.reduceLT,ti2,ti3,ti4,ti41,ti42,ti62,ti22,ti45,ti37,ti47,ti39,ti74,ti138,ti101,ti103,ti108,ti24,ti28,ti96, Bool.not_true, bne_self_eq_false, e0, E0, Ou0, Ow0, Og0, Or0, Ox0, Os0]
  refine (heldInt64SS_c r0 _ _ (by omega) (by omega) (by omega) H12 KFr0.rd).to ?_
  try simp (disch := first | omega | (simp only [ints_length, List.length_replicate]; done) | (simp only [ints_length, List.length_replicate]; omega)) only [Sall,evalOp,init,binE,binI,unE,convE,okNil,builtE,gv,TD.isAgg,resV,↓reduceIte,Nat.reduceEqDiff,reduceCtorEq,Nat.reduceAdd,Nat.reduceMul,Nat.reduceLeDiff,quietOp,blindOp,Int.reduceEq,Int.reduceLT,Int.reduceLE,Nat.reduceLT,ti2,ti3,ti4,ti41,ti42,ti62,ti22,ti45,ti37,ti47,ti39,ti74,ti138,ti101,ti103,ti108,ti24,ti28,ti96, bne_self_eq_false, beq_self_eq_true, Bool.not_true, e0, E0, Ou0, Ow0, Og0, Or0, Ox0, Os0]
  rw [decide_eq_false (by omega)]
  try simp (disch := first | omega | (simp only [ints_length, List.length_replicate]; done) | (simp only [ints_length, List.length_replicate]; omega)) only [Sall,evalOp,init,binE,binI,unE,convE,okNil,builtE,gv,TD.isAgg,resV,↓reduceIte,Nat.reduceEqDiff,reduceCtorEq,Nat.reduceAdd,Nat.reduceMul,Nat.reduceLeDiff,quietOp,blindOp,Int.reduceEq,Int.reduceLT,Int.reduceLE,Nat.reduceLT,ti2,ti3,ti4,ti41,ti42,ti62,ti22,ti45,ti37,ti47,ti39,ti74,ti138,ti101,ti103,ti108,ti24,ti28,ti96, bne_self_eq_false, beq_self_eq_true, Bool.not_true, e0, E0, Ou0, Ow0, Og0, Or0, Ox0, Os0]
end Go.Proofs.Ytnpmidgikbbnbaa.A
end

section
set_option linter.unusedVariables false
set_option maxRecDepth 100000
namespace Go.Proofs.Ytnpmidgikbbnbaa.A
open Go Go.Abs Go.RowKit
section
variable {K : Type} {enc : TypeId × Value → K} {W : World} {base b0 : Nat} {spare : Nat → Bool} {held : Bool}

theorem uInt : Try.prog.underlying 2 = some (.int .i64) := by kernel_rfl
theorem uArr : Try.prog.underlying 41 = some (.array 14 2) := by kernel_rfl
theorem uRounds : Try.prog.underlying 37 = some (.slice 41) := by kernel_rfl
theorem cInt : Try.prog.cellsOf 2 = 1 := by kernel_rfl
theorem cArr : Try.prog.cellsOf 41 = 14 := by kernel_rfl
theorem cRounds : Try.prog.cellsOf 37 = 1 := by kernel_rfl
theorem cSched : Try.prog.cellsOf 39 = 2 := by kernel_rfl
theorem fSched : fieldsOf Try.prog 39 = some [(2, 0), (37, 1)] := by kernel_rfl

theorem open_rounds {fuel : Nat} {v : Value} {x : DataW K × List MemPlace} (h : DataW.trod enc Try.prog W base spare held fuel 37 [v] = some x) (hok : Cell.okWide Try.prog W .any 0 37 v) :
    ∃ n l, Rd 14 (given W) v n l ∧ V1 id W.heap.size W v v ∧ n ≤ 9223372036854775807 := by
  have h1 := ok_slice_cell uRounds hok
  obtain ⟨n, l, hr, hv, hh⟩ := trod_ints uRounds cArr (by omega) (intsOf_array uArr uInt cInt cArr) h (h1.imp id fun ⟨b, o, n, c, e, hb, _⟩ => ⟨b, o, n, c, e, hb⟩)
  refine ⟨n, l, hr, hv, ?_⟩
  rcases hh with ⟨_, rfl⟩ | ⟨b, o, c, rfl⟩
  · omega
  · rcases h1 with h1 | ⟨b', o', n', c', e, _, hn⟩
    · cases h1
    · cases e; exact hn

theorem open_sched {fuel : Nat} {c0 c1 : Value} {x : DataW K × List MemPlace} (h : DataW.trod enc Try.prog W base spare held fuel 39 [c0, c1] = some x) (hok : Cell.okWide Try.prog W .any 0 37 c1) :
    ∃ q n l, c0 = .int .i64 q ∧ Rd 14 (given W) c1 n l ∧ V1 id W.heap.size W c1 c1 ∧ n ≤ 9223372036854775807 := by
  obtain ⟨m, hf⟩ := trod_fields fSched h
  obtain ⟨y0, h0⟩ := hf (2, 0) (by simp)
  obtain ⟨y1, h1⟩ := hf (37, 1) (by simp)
  simp only [cInt, cRounds] at h0 h1
  obtain ⟨q, hq, _⟩ := DataW.trod_int uInt h0
  obtain ⟨n, l, hr, hv, hn⟩ := open_rounds h1 hok
  exact ⟨q, n, l, by simpa using hq, hr, hv, hn⟩
end
end Go.Proofs.Ytnpmidgikbbnbaa.A
end

section
set_option linter.unusedVariables false
set_option maxRecDepth 100000
namespace Go.Proofs.Ytnpmidgikbbnbaa.A
open Go Go.Abs Go.RowKit
theorem tSched : Try.prog.cellTypes Try.prog.depth 39 = some [2, 37] := by kernel_rfl
theorem uList : Try.prog.underlying 62 = some (.slice 2) := by kernel_rfl
theorem uLists : Try.prog.underlying 22 = some (.slice 62) := by kernel_rfl
theorem cList : Try.prog.cellsOf 62 = 1 := by kernel_rfl
section
variable {K : Type} {enc : TypeId × Value → K} {W : World} {b0 : Nat} {spare : Nat → Bool} {held : Bool} {v : Value} {d : DataW K} {p : List MemPlace}

theorem open_S (h : DataW.Trod enc Try.prog W 0 spare held 39 v d p) (hok : Value.okWide Try.prog W .any b0 39 v) :
    ∃ q u n l, v = .agg #[.int .i64 q, u] ∧ Rd 14 (given W) u n l ∧ V1 id W.heap.size W u u ∧ n ≤ 9223372036854775807 := by
  obtain ⟨cs, rfl, hs, hc⟩ := ok_struct fSched tSched hok
  rw [cSched] at hs
  obtain ⟨l⟩ := cs
  match l, hs with
  | [c0, c1], _ =>
    obtain ⟨fuel, h⟩ := h
    obtain ⟨e, he, k1⟩ := hc 1 c1 rfl
    cases he
    obtain ⟨q, n, l, rfl, r1, v1, n1⟩ := open_sched h k1
    exact ⟨q, c1, n, l, rfl, r1, v1, n1⟩

theorem open_I (h : DataW.Trod enc Try.prog W 0 spare held 2 v d p) (hok : Value.okWide Try.prog W .any b0 2 v) : ∃ a, v = .int .i64 a ∧ -9223372036854775808 ≤ a ∧ a ≤ 9223372036854775807 := by
  obtain ⟨fuel, h⟩ := h
  obtain ⟨a, ha, hx⟩ := DataW.trod_int uInt h
  unfold Value.okWide at hok
  rw [uInt] at hok
  have h2 : Cell.okWide Try.prog W .any b0 2 v := hok
  unfold Cell.okWide at h2
  rw [uInt] at h2
  have h3 : Cell.ok Try.prog W .any b0 2 v := h2
  unfold Cell.ok at h3
  rw [uInt] at h3
  cases v with
  | int k n =>
    obtain ⟨rfl, h4, h5⟩ := h3
    exact ⟨n, rfl, h4, h5⟩
  | _ => exact False.elim h3

theorem cell_of_val {t e : TypeId} (hu : Try.prog.underlying t = some (.slice e)) (hok : Value.okWide Try.prog W .any b0 t v) : Cell.okWide Try.prog W .any 0 t v := by
  unfold Value.okWide at hok
  rw [hu] at hok
  exact hok

theorem cells_slice1 {t e : TypeId} (hu : Try.prog.underlying t = some (.slice e)) (hok : Cell.okWide Try.prog W .any 0 t v) : v.cells.toList = [v] := by
  rcases ok_slice_cell hu hok with rfl | ⟨b, o, n, c, rfl, _⟩ <;> rfl

theorem open_LL (h : DataW.Trod enc Try.prog W 0 spare held 22 v d p) (hok : Value.okWide Try.prog W .any b0 22 v) :
    ∃ ll, Rd2 1 (given W) v ll ∧ V1 id W.heap.size W v v ∧ ll.length ≤ 9223372036854775807 ∧ ∀ y ∈ ll, y.length ≤ 9223372036854775807 := by
  have h0 := cell_of_val uLists hok
  obtain ⟨fuel, h⟩ := h
  rw [cells_slice1 uLists h0] at h
  obtain ⟨ll, h1, h2, h3, h4⟩ := trod_lists uLists uList uInt cList cInt h (ok_slice_cell uLists h0)
  exact ⟨ll, h1, h2, h3, fun y hy => by have := h4 y hy; unfold Go.maxLen at this; omega⟩

theorem open_L (h : DataW.Trod enc Try.prog W 0 spare held 62 v d p) (hok : Value.okWide Try.prog W .any b0 62 v) :
    ∃ n l, Rd 1 (given W) v n l ∧ V1 id W.heap.size W v v ∧ n ≤ 9223372036854775807 := by
  have h0 := cell_of_val uList hok
  obtain ⟨fuel, h⟩ := h
  rw [cells_slice1 uList h0] at h
  have h1 := ok_slice_cell uList h0
  obtain ⟨n, l, hr, hv, hh⟩ := trod_ints uList cInt (by omega) (intsOf_int uInt) h (h1.imp id fun ⟨b, o, n, c, e, hb, _⟩ => ⟨b, o, n, c, e, hb⟩)
  refine ⟨n, l, hr, hv, ?_⟩
  rcases hh with ⟨_, rfl⟩ | ⟨b, o, c, rfl⟩
  · omega
  · rcases h1 with h1 | ⟨b', o', n', c', e, _, hn⟩
    · cases h1
    · cases e; exact hn
end
end Go.Proofs.Ytnpmidgikbbnbaa.A
end

section
set_option linter.unusedVariables false
set_option maxRecDepth 100000
namespace Go.Proofs.Ytnpmidgikbbnbaa.A
open Go Go.Abs Go.RowKit
theorem tEven : Try.prog.cellTypes Try.prog.depth 24 = some [2, 22] := by kernel_rfl
theorem fEven : fieldsOf Try.prog 24 = some [(2, 0), (22, 1)] := by kernel_rfl
theorem cEven : Try.prog.cellsOf 24 = 2 := by kernel_rfl
theorem cLists : Try.prog.cellsOf 22 = 1 := by kernel_rfl
theorem open_E {K : Type} {enc : TypeId × Value → K} {W : World} {b0 : Nat} {spare : Nat → Bool} {held : Bool} {v : Value} {d : DataW K} {p : List MemPlace} (h : DataW.Trod enc Try.prog W 0 spare held 24 v d p) (hok : Value.okWide Try.prog W .any b0 24 v) :
    ∃ q u ll, v = .agg #[.int .i64 q, u] ∧ Rd2 1 (given W) u ll ∧ V1 id W.heap.size W u u ∧ ll.length ≤ 9223372036854775807 ∧ ∀ y ∈ ll, y.length ≤ 9223372036854775807 := by
  obtain ⟨cs, rfl, hs, hc⟩ := ok_struct fEven tEven hok
  rw [cEven] at hs
  obtain ⟨l⟩ := cs
  match l, hs with
  | [c0, c1], _ =>
    obtain ⟨fuel, h⟩ := h
    have h9 : DataW.trod enc Try.prog W 0 spare held fuel 24 [c0, c1] = some (d, p) := h
    obtain ⟨m, hf⟩ := trod_fields fEven h9
    obtain ⟨y0, h0⟩ := hf (2, 0) (by simp)
    obtain ⟨y1, h1⟩ := hf (22, 1) (by simp)
    simp only [cInt, cLists] at h0 h1
    obtain ⟨q, hq, _⟩ := DataW.trod_int uInt h0
    obtain ⟨e, he, k1⟩ := hc 1 c1 rfl
    cases he
    obtain ⟨ll, g1, g2, g3, g4⟩ := trod_lists uLists uList uInt cList cInt h1 (ok_slice_cell uLists k1)
    have hc0 : c0 = .int .i64 q := by simpa using hq
    subst hc0
    exact ⟨q, c1, ll, rfl, g1, g2, g3, fun y hy => by have := g4 y hy; unfold Go.maxLen at this; omega⟩
end Go.Proofs.Ytnpmidgikbbnbaa.A
end
