/- The walk of the law of PointsBetween. -/
import Derived.Test.YthabnjaapickiaaC12
import Derived.Test.YthabnjaapickiaaL1
import Derived.Test.YthabnjaapickiaaL3
set_option linter.unusedSimpArgs false
set_option linter.unusedVariables false
set_option maxRecDepth 100000
--LEN ints_length, List.length_replicate
namespace Go.Proofs.Ythabnjaapickiaa.A
open Go Go.Abs Go.RowKit

theorem law_PointsBetween_c (q0 : Int) (v0 : Value) (n0 : Nat) (l0 : List Int) (v1 : Value) (ll1 : List (List Int)) (a2 : Int) (a3 : Int) (H : AH) (h0 : Rd 14 H v0 n0 l0) (b0 : n0 ≤ 9223372036854775807) (h1 : Rd2 1 H v1 ll1) (b1 : ll1.length ≤ 9223372036854775807) (c1 : ∀ y ∈ ll1, y.length ≤ 9223372036854775807) (b2 : -9223372036854775808 ≤ a2 ∧ a2 ≤ 9223372036854775807) (b3 : -9223372036854775808 ≤ a3 ∧ a3 ≤ 9223372036854775807) :
    ACalls Try.prog 11 [.agg #[.int .i64 q0, v0], v1, .int .i64 a2, .int .i64 a3] H (fun v _ => v = .bool true ∧ True) := by
  refine ACalls.wf (by kernel_rfl) fun hs => acalls_of_awp [.tmp 8] Try.func11 (by kernel_rfl) rfl rfl (Nat.le_of_ble_eq_true rfl) (by kernel_rfl) ?_
  have o0 := h0.one
  try simp (disch := first | omega | (simp only [ints_length, List.length_replicate]; done) | (simp only [ints_length, List.length_replicate]; omega)) only [Sall,evalOp,init,binE,binI,unE,convE,okNil,builtE,gv,TD.isAgg,resV,↓reduceIte,Nat.reduceEqDiff,reduceCtorEq,Nat.reduceAdd,Nat.reduceMul,Nat.reduceLeDiff,quietOp,blindOp,Int.reduceEq,Int.reduceLT,Int.reduceLE,Nat.reduceLT,ti2,ti3,ti4,ti94,ti95,ti22,ti46,ti28,ti37,ti30,ti39,ti36,ti114,ti32,ti41, o0]
  obtain ⟨H1, eH1⟩ : ∃ H1, H1 = (H.push ⟨39, true, [.int .i64 q0, v0]⟩) := ⟨_, rfl⟩
  have nx1 : H1.next = H.next + 1 := by rw [eH1]; rfl
  have U1 : Up H.next H H1 := by rw [eH1]; exact ((Up.refl _ H).push (by first | omega | (simp only [AH.push_next]; omega)) _)
  have e0 : H1.row H.next = some ⟨39, true, [.int .i64 q0, v0]⟩ := by rw [eH1]; simp [AH.push_row, AH.push_next]
  rw [← eH1]
  clear eH1
  refine (szSchedule_c q0 v0 n0 l0 _ H1 (h0.same (U1.le hs).row) (by omega) b0).to ?_
  obtain ⟨x0, ex0⟩ : ∃ x, x = szL (1048576) n0 := ⟨_, rfl⟩
  rw [← ex0]
  have z0 : 0 ≤ x0 → (n0 : Int) + x0 = 1048576 := by intro hx; unfold szL at ex0; split at ex0 <;> omega
  refine Holds.mp ?_
  by_cases y0 : x0 < 0
  · try simp (disch := first | omega | (simp only [ints_length, List.length_replicate]; done) | (simp only [ints_length, List.length_replicate]; omega)) only [Sall,evalOp,init,binE,binI,unE,convE,okNil,builtE,gv,TD.isAgg,resV,↓reduceIte,Nat.reduceEqDiff,reduceCtorEq,Nat.reduceAdd,Nat.reduceMul,Nat.reduceLeDiff,quietOp,blindOp,Int.reduceEq,Int.reduceLT,Int.reduceLE,Nat.reduceLT,ti2,ti3,ti4,ti94,ti95,ti22,ti46,ti28,ti37,ti30,ti39,ti36,ti114,ti32,ti41, y0, decide_true]
  have y0' := z0 (by omega)
  try simp (disch := first | omega | (simp only [ints_length, List.length_replicate]; done) | (simp only [ints_length, List.length_replicate]; omega)) only [Sall,evalOp,init,binE,binI,unE,convE,okNil,builtE,gv,TD.isAgg,resV,↓reduceIte,Nat.reduceEqDiff,reduceCtorEq,Nat.reduceAdd,Nat.reduceMul,Nat.reduceLeDiff,quietOp,blindOp,Int.reduceEq,Int.reduceLT,Int.reduceLE,Nat.reduceLT,ti2,ti3,ti4,ti94,ti95,ti22,ti46,ti28,ti37,ti30,ti39,ti36,ti114,ti32,ti41, y0, decide_false, e0]
  refine (szInt64SS_c v1 ll1 _ H1 (h1.same (U1.le hs).row) (by omega) b1 c1).exH ?_
  rintro x1 z1
  refine Holds.mp ?_
  by_cases y1 : x1 < 0
  · try simp (disch := first | omega | (simp only [ints_length, List.length_replicate]; done) | (simp only [ints_length, List.length_replicate]; omega)) only [Sall,evalOp,init,binE,binI,unE,convE,okNil,builtE,gv,TD.isAgg,resV,↓reduceIte,Nat.reduceEqDiff,reduceCtorEq,Nat.reduceAdd,Nat.reduceMul,Nat.reduceLeDiff,quietOp,blindOp,Int.reduceEq,Int.reduceLT,Int.reduceLE,Nat.reduceLT,ti2,ti3,ti4,ti94,ti95,ti22,ti46,ti28,ti37,ti30,ti39,ti36,ti114,ti32,ti41, y1, decide_true]
  have y1' := z1 (by omega)
  try simp (disch := first | omega | (simp only [ints_length, List.length_replicate]; done) | (simp only [ints_length, List.length_replicate]; omega)) only [Sall,evalOp,init,binE,binI,unE,convE,okNil,builtE,gv,TD.isAgg,resV,↓reduceIte,Nat.reduceEqDiff,reduceCtorEq,Nat.reduceAdd,Nat.reduceMul,Nat.reduceLeDiff,quietOp,blindOp,Int.reduceEq,Int.reduceLT,Int.reduceLE,Nat.reduceLT,ti2,ti3,ti4,ti94,ti95,ti22,ti46,ti28,ti37,ti30,ti39,ti36,ti114,ti32,ti41, y1, decide_false, e0]
  have d1 : ∀ y ∈ ll1, y.length ≤ 1048576 := fun y hy => by have := tot_mem hy; omega
  refine (toSchedule_c q0 v0 n0 l0 H1 (h0.same (U1.le hs).row) (by omega)).ex ?_
  rintro u0 H2 ⟨up2, Fu0⟩
  have nx2 := up2.next
  have U2 : Up H.next H H2 := U1.trans up2 (by omega)
  replace e0 : H2.row H.next = some ⟨39, true, [.int .i64 q0, v0]⟩ := by rw [up2.row _ (by omega), e0]
  have Ou0 := Fu0.rd.one
  try simp (disch := first | omega | (simp only [ints_length, List.length_replicate]; done) | (simp only [ints_length, List.length_replicate]; omega)) only [Sall,evalOp,init,binE,binI,unE,convE,okNil,builtE,gv,TD.isAgg,resV,↓reduceIte,Nat.reduceEqDiff,reduceCtorEq,Nat.reduceAdd,Nat.reduceMul,Nat.reduceLeDiff,quietOp,blindOp,Int.reduceEq,Int.reduceLT,Int.reduceLE,Nat.reduceLT,ti2,ti3,ti4,ti94,ti95,ti22,ti46,ti28,ti37,ti30,ti39,ti36,ti114,ti32,ti41, e0, Ou0]
  refine (toInt64SS_c v1 ll1 H2 (h1.same (U2.le hs).row) (by omega) (fun y hy => by have := d1 y hy; omega)).mono ?_
  rintro u1 H3 ⟨up3, Fu1⟩
  have nx3 := up3.next
  have U3 : Up H.next H H3 := U2.trans up3 (by omega)
  replace e0 : H3.row H.next = some ⟨39, true, [.int .i64 q0, v0]⟩ := by rw [up3.row _ (by omega), e0]
  replace Fu0 : Fr 14 95 H1.next H2.next H3 u0 n0 l0 := Fu0.same fun i _ hi => up3.row i (by omega)
  refine Holds.mp ?_
  try simp (disch := first | omega | (simp only [ints_length, List.length_replicate]; done) | (simp only [ints_length, List.length_replicate]; omega)) only [Sall,evalOp,init,binE,binI,unE,convE,okNil,builtE,gv,TD.isAgg,resV,↓reduceIte,Nat.reduceEqDiff,reduceCtorEq,Nat.reduceAdd,Nat.reduceMul,Nat.reduceLeDiff,quietOp,blindOp,Int.reduceEq,Int.reduceLT,Int.reduceLE,Nat.reduceLT,ti2,ti3,ti4,ti94,ti95,ti22,ti46,ti28,ti37,ti30,ti39,ti36,ti114,ti32,ti41, e0, Ou0]
  refine (specPointsBetween_c q0 u0 n0 l0 u1 ll1 a2 a3 H3 Fu0.rd (by omega) Fu1.rd (by omega) (fun y hy => by have := d1 y hy; omega) b2 b3).to ?_
  try simp (disch := first | omega | (simp only [ints_length, List.length_replicate]; done) | (simp only [ints_length, List.length_replicate]; omega)) only [Sall,evalOp,init,binE,binI,unE,convE,okNil,builtE,gv,TD.isAgg,resV,↓reduceIte,Nat.reduceEqDiff,reduceCtorEq,Nat.reduceAdd,Nat.reduceMul,Nat.reduceLeDiff,quietOp,blindOp,Int.reduceEq,Int.reduceLT,Int.reduceLE,Nat.reduceLT,ti2,ti3,ti4,ti94,ti95,ti22,ti46,ti28,ti37,ti30,ti39,ti36,ti114,ti32,ti41, e0, Ou0]
  refine (toSchedule_c q0 v0 n0 l0 H3 (h0.same (U3.le hs).row) (by omega)).ex ?_
  rintro g0 H4 ⟨up4, Fg0⟩
  have nx4 := up4.next
  have U4 : Up H.next H H4 := U3.trans up4 (by omega)
  replace e0 : H4.row H.next = some ⟨39, true, [.int .i64 q0, v0]⟩ := by rw [up4.row _ (by omega), e0]
  have Og0 := Fg0.rd.one
  try simp (disch := first | omega | (simp only [ints_length, List.length_replicate]; done) | (simp only [ints_length, List.length_replicate]; omega)) only [Sall,evalOp,init,binE,binI,unE,convE,okNil,builtE,gv,TD.isAgg,resV,↓reduceIte,Nat.reduceEqDiff,reduceCtorEq,Nat.reduceAdd,Nat.reduceMul,Nat.reduceLeDiff,quietOp,blindOp,Int.reduceEq,Int.reduceLT,Int.reduceLE,Nat.reduceLT,ti2,ti3,ti4,ti94,ti95,ti22,ti46,ti28,ti37,ti30,ti39,ti36,ti114,ti32,ti41, e0, Ou0, Og0]
  obtain ⟨H5, eh⟩ : ∃ K, K = (H4.push ⟨30, true, [.int .i64 0, .slice none 0 0]⟩).setCells H4.next [.int .i64 q0, g0] := ⟨_, rfl⟩
  have up5 : Up H4.next H4 H5 := by rw [eh]; exact ((Up.refl _ _).push (Nat.le_refl _) _).set (Nat.le_refl _) _
  have E0 : H5.row H4.next = some ⟨30, true, [.int .i64 q0, g0]⟩ := by rw [eh, AH.setCells_row, if_pos rfl, AH.push_row, if_pos rfl]; rfl
  have nn5 : H5.next = H4.next + 1 := by rw [eh]; rfl
  rw [← eh]
  clear eh
  have nx5 := up5.next
  have U5 : Up H.next H H5 := U4.trans up5 (by omega)
  replace e0 : H5.row H.next = some ⟨39, true, [.int .i64 q0, v0]⟩ := by rw [up5.row _ (by omega), e0]
  replace Fg0 : Fr 14 95 H3.next H4.next H5 g0 n0 l0 := Fg0.same fun i _ hi => up5.row i (by omega)
  try simp (disch := first | omega | (simp only [ints_length, List.length_replicate]; done) | (simp only [ints_length, List.length_replicate]; omega)) only [Sall,evalOp,init,binE,binI,unE,convE,okNil,builtE,gv,TD.isAgg,resV,↓reduceIte,Nat.reduceEqDiff,reduceCtorEq,Nat.reduceAdd,Nat.reduceMul,Nat.reduceLeDiff,quietOp,blindOp,Int.reduceEq,Int.reduceLT,Int.reduceLE,Nat.reduceLT,ti2,ti3,ti4,ti94,ti95,ti22,ti46,ti28,ti37,ti30,ti39,ti36,ti114,ti32,ti41, e0, E0, Ou0, Og0]
  refine (toInt64SS_c v1 ll1 H5 (h1.same (U5.le hs).row) (by omega) (fun y hy => by have := d1 y hy; omega)).mono ?_
  rintro g1 H6 ⟨up6, Fg1⟩
  have nx6 := up6.next
  have U6 : Up H.next H H6 := U5.trans up6 (by omega)
  replace e0 : H6.row H.next = some ⟨39, true, [.int .i64 q0, v0]⟩ := by rw [up6.row _ (by omega), e0]
  replace E0 : H6.row H4.next = some ⟨30, true, [.int .i64 q0, g0]⟩ := by rw [up6.row _ (by omega), E0]
  replace Fg0 : Fr 14 95 H3.next H4.next H6 g0 n0 l0 := Fg0.same fun i _ hi => up6.row i (by omega)
  refine Holds.mp ?_
  try simp (disch := first | omega | (simp only [ints_length, List.length_replicate]; done) | (simp only [ints_length, List.length_replicate]; omega)) only [Sall,evalOp,init,binE,binI,unE,convE,okNil,builtE,gv,TD.isAgg,resV,↓reduceIte,Nat.reduceEqDiff,reduceCtorEq,Nat.reduceAdd,Nat.reduceMul,Nat.reduceLeDiff,quietOp,blindOp,Int.reduceEq,Int.reduceLT,Int.reduceLE,Nat.reduceLT,ti2,ti3,ti4,ti94,ti95,ti22,ti46,ti28,ti37,ti30,ti39,ti36,ti114,ti32,ti41, e0, E0, Ou0, Og0]
  refine (PointsBetween_c q0 g0 n0 l0 g1 ll1 a2 a3 H6 Fg0.rd (by omega) Fg1.rd (by omega) (fun y hy => by have := d1 y hy; omega) b2 b3).to ?_
  try simp (disch := first | omega | (simp only [ints_length, List.length_replicate]; done) | (simp only [ints_length, List.length_replicate]; omega)) only [Sall,evalOp,init,binE,binI,unE,convE,okNil,builtE,gv,TD.isAgg,resV,↓reduceIte,Nat.reduceEqDiff,reduceCtorEq,Nat.reduceAdd,Nat.reduceMul,Nat.reduceLeDiff,quietOp,blindOp,Int.reduceEq,Int.reduceLT,Int.reduceLE,Nat.reduceLT,ti2,ti3,ti4,ti94,ti95,ti22,ti46,ti28,ti37,ti30,ti39,ti36,ti114,ti32,ti41, e0, E0, Ou0, Og0]
  try simp (disch := first | omega | (simp only [ints_length, List.length_replicate]; done) | (simp only [ints_length, List.length_replicate]; omega)) only [Sall,evalOp,init,binE,binI,unE,convE,okNil,builtE,gv,TD.isAgg,resV,↓reduceIte,Nat.reduceEqDiff,reduceCtorEq,Nat.reduceAdd,Nat.reduceMul,Nat.reduceLeDiff,quietOp,blindOp,Int.reduceEq,Int.reduceLT,Int.reduceLE,Nat.reduceLT,ti2,ti3,ti4,ti94,ti95,ti22,ti46,ti28,ti37,ti30,ti39,ti36,ti114,ti32,ti41, bne_self_eq_false, beq_self_eq_true, Bool.not_true, e0, E0, Ou0, Og0]
  refine draw_id (by kernel_rfl) (by kernel_rfl) ?_
  try simp (disch := first | omega | (simp only [ints_length, List.length_replicate]; done) | (simp only [ints_length, List.length_replicate]; omega)) only [Sall,evalOp,init,binE,binI,unE,convE,okNil,builtE,gv,TD.isAgg,resV,↓reduceIte,Nat.reduceEqDiff,reduceCtorEq,Nat.reduceAdd,Nat.reduceMul,Nat.reduceLeDiff,quietOp,blindOp,Int.reduceEq,Int.reduceLT,Int.reduceLE,Nat.reduceLT,ti2,ti3,ti4,ti94,ti95,ti22,ti46,ti28,ti37,ti30,ti39,ti36,ti114,ti32,ti41, e0, E0, Ou0, Og0]
  refine ACalls.wf (by kernel_rfl) fun hs7 => (toSchedule_c q0 v0 n0 l0 H6 (h0.same (U6.le hs).row) (by omega)).ex ?_
  rintro t0 H7 ⟨up7, Ft0⟩
  refine ⟨.inr (.inr (up7.le hs7)), ?_⟩
  have nx7 := up7.next
  have U7 : Up H.next H H7 := U6.trans up7 (by omega)
  replace e0 : H7.row H.next = some ⟨39, true, [.int .i64 q0, v0]⟩ := by rw [up7.row _ (by omega), e0]
  replace E0 : H7.row H4.next = some ⟨30, true, [.int .i64 q0, g0]⟩ := by rw [up7.row _ (by omega), E0]
  replace Fg0 : Fr 14 95 H3.next H4.next H7 g0 n0 l0 := Fg0.same fun i _ hi => up7.row i (by omega)
  replace Fg1 : Fr2 1 22 2 H5.next H6.next H7 g1 ll1 := Fg1.same fun i _ hi => up7.row i (by omega)
  try simp (disch := first | omega | (simp only [ints_length, List.length_replicate]; done) | (simp only [ints_length, List.length_replicate]; omega)) only [Sall,evalOp,init,binE,binI,unE,convE,okNil,builtE,gv,TD.isAgg,resV,↓reduceIte,Nat.reduceEqDiff,reduceCtorEq,Nat.reduceAdd,Nat.reduceMul,Nat.reduceLeDiff,quietOp,blindOp,Int.reduceEq,Int.reduceLT,Int.reduceLE,Nat.reduceLT,ti2,ti3,ti4,ti94,ti95,ti22,ti46,ti28,ti37,ti30,ti39,ti36,ti114,ti32,ti41, e0, E0, Ou0, Og0]
  refine (eqSchedule_c g0 t0 q0 n0 l0 (by omega) H7 Fg0.rd Ft0.rd Fg0.rd.one Ft0.rd.one).to ?_
  refine ⟨.inr (.inr (LE.refl _)), ?_⟩
  try simp (disch := first | omega | (simp only [ints_length, List.length_replicate]; done) | (simp only [ints_length, List.length_replicate]; omega)) only [Sall,evalOp,init,binE,binI,unE,convE,okNil,builtE,gv,TD.isAgg,resV,↓reduceIte,Nat.reduceEqDiff,reduceCtorEq,Nat.reduceAdd,Nat.reduceMul,Nat.reduceLeDiff,quietOp,blindOp,Int.reduceEq,Int.reduceLT,Int.reduceLE,Nat.reduceLT,ti2,ti3,ti4,ti94,ti95,ti22,ti46,ti28,ti37,ti30,ti39,ti36,ti114,ti32,ti41, Bool.not_true, e0, E0, Ou0, Og0]
  refine (toInt64SS_c v1 ll1 H7 (h1.same (U7.le hs).row) (by omega) (fun y hy => by have := d1 y hy; omega)).mono ?_
  rintro t1 H8 ⟨up8, Ft1⟩
  have nx8 := up8.next
  have U8 : Up H.next H H8 := U7.trans up8 (by omega)
  replace e0 : H8.row H.next = some ⟨39, true, [.int .i64 q0, v0]⟩ := by rw [up8.row _ (by omega), e0]
  replace E0 : H8.row H4.next = some ⟨30, true, [.int .i64 q0, g0]⟩ := by rw [up8.row _ (by omega), E0]
  replace Fg0 : Fr 14 95 H3.next H4.next H8 g0 n0 l0 := Fg0.same fun i _ hi => up8.row i (by omega)
  replace Fg1 : Fr2 1 22 2 H5.next H6.next H8 g1 ll1 := Fg1.same fun i _ hi => up8.row i (by omega)
  refine Holds.mp ?_
  try simp (disch := first | omega | (simp only [ints_length, List.length_replicate]; done) | (simp only [ints_length, List.length_replicate]; omega)) only [Sall,evalOp,init,binE,binI,unE,convE,okNil,builtE,gv,TD.isAgg,resV,↓reduceIte,Nat.reduceEqDiff,reduceCtorEq,Nat.reduceAdd,Nat.reduceMul,Nat.reduceLeDiff,quietOp,blindOp,Int.reduceEq,Int.reduceLT,Int.reduceLE,Nat.reduceLT,ti2,ti3,ti4,ti94,ti95,ti22,ti46,ti28,ti37,ti30,ti39,ti36,ti114,ti32,ti41, e0, E0, Ou0, Og0]
  refine (eqInt64SS_c g1 t1 ll1 (by omega) (fun y hy => by have := d1 y hy; omega) H8 Fg1.rd Ft1.rd).to ?_
  try simp (disch := first | omega | (simp only [ints_length, List.length_replicate]; done) | (simp only [ints_length, List.length_replicate]; omega)) only [Sall,evalOp,init,binE,binI,unE,convE,okNil,builtE,gv,TD.isAgg,resV,↓reduceIte,Nat.reduceEqDiff,reduceCtorEq,Nat.reduceAdd,Nat.reduceMul,Nat.reduceLeDiff,quietOp,blindOp,Int.reduceEq,Int.reduceLT,Int.reduceLE,Nat.reduceLT,ti2,ti3,ti4,ti94,ti95,ti22,ti46,ti28,ti37,ti30,ti39,ti36,ti114,ti32,ti41, Bool.not_true, e0, E0, Ou0, Og0]
end Go.Proofs.Ythabnjaapickiaa.A
