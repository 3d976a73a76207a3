/- The walk of the law of RankingOf. -/
import Derived.Test.YtbmpkihggipciaaC32
import Derived.Test.YtbmpkihggipciaaL1
import Derived.Test.YtbmpkihggipciaaL2
import Derived.Test.YtbmpkihggipciaaL3
set_option linter.unusedSimpArgs false
set_option linter.unusedVariables false
set_option maxRecDepth 100000
--LEN ints_length, List.length_replicate
namespace Go.Proofs.Ytbmpkihggipciaa.A
open Go Go.Abs Go.RowKit

theorem law_RankingOf_c (q0 : Int) (v0 : Value) (n0 : Nat) (l0 : List Int) (v1 : Value) (ll1 : List (List Int)) (H : AH) (h0 : Rd 14 H v0 n0 l0) (b0 : n0 ≤ 9223372036854775807) (h1 : Rd2 1 H v1 ll1) (b1 : ll1.length ≤ 9223372036854775807) (c1 : ∀ y ∈ ll1, y.length ≤ 9223372036854775807) :
    ACalls Try.prog 14 [.agg #[.int .i64 q0, v0], v1] H (fun v _ => v = .bool true ∧ True) := by
  refine ACalls.wf (by kernel_rfl) fun hs => acalls_of_awp [.tmp 4] Try.func14 (by kernel_rfl) rfl rfl (Nat.le_of_ble_eq_true rfl) (by kernel_rfl) ?_
  have o0 := h0.one
  try simp (disch := first | omega | (simp only [ints_length, List.length_replicate]; done) | (simp only [ints_length, List.length_replicate]; omega)) only [Sall,evalOp,init,binE,binI,unE,convE,okNil,builtE,gv,TD.isAgg,resV,↓reduceIte,Nat.reduceEqDiff,reduceCtorEq,Nat.reduceAdd,Nat.reduceMul,Nat.reduceLeDiff,quietOp,blindOp,Int.reduceEq,Int.reduceLT,Int.reduceLE,Nat.reduceLT,ti2,ti3,ti4,ti79,ti80,ti28,ti25,ti31,ti22,ti33,ti24,ti67,ti111,ti145,ti136,ti137,ti117,ti100, o0]
  obtain ⟨H1, eH1⟩ : ∃ H1, H1 = (H.push ⟨24, true, [.int .i64 q0, v0]⟩) := ⟨_, rfl⟩
  have nx1 : H1.next = H.next + 1 := by rw [eH1]; rfl
  have U1 : Up H.next H H1 := by rw [eH1]; exact ((Up.refl _ H).push (by first | omega | (simp only [AH.push_next]; omega)) _)
  have e0 : H1.row H.next = some ⟨24, true, [.int .i64 q0, v0]⟩ := by rw [eH1]; simp [AH.push_row, AH.push_next]
  rw [← eH1]
  clear eH1
  refine (szSchedule_c q0 v0 n0 l0 _ H1 (h0.same (U1.le hs).row) (by omega) b0).to ?_
  obtain ⟨x0, ex0⟩ : ∃ x, x = szL (1048576) n0 := ⟨_, rfl⟩
  rw [← ex0]
  have z0 : 0 ≤ x0 → (n0 : Int) + x0 = 1048576 := by intro hx; unfold szL at ex0; split at ex0 <;> omega
  refine Holds.mp ?_
  by_cases y0 : x0 < 0
  · try simp (disch := first | omega | (simp only [ints_length, List.length_replicate]; done) | (simp only [ints_length, List.length_replicate]; omega)) only [Sall,evalOp,init,binE,binI,unE,convE,okNil,builtE,gv,TD.isAgg,resV,↓reduceIte,Nat.reduceEqDiff,reduceCtorEq,Nat.reduceAdd,Nat.reduceMul,Nat.reduceLeDiff,quietOp,blindOp,Int.reduceEq,Int.reduceLT,Int.reduceLE,Nat.reduceLT,ti2,ti3,ti4,ti79,ti80,ti28,ti25,ti31,ti22,ti33,ti24,ti67,ti111,ti145,ti136,ti137,ti117,ti100, y0, decide_true]
  have y0' := z0 (by omega)
  try simp (disch := first | omega | (simp only [ints_length, List.length_replicate]; done) | (simp only [ints_length, List.length_replicate]; omega)) only [Sall,evalOp,init,binE,binI,unE,convE,okNil,builtE,gv,TD.isAgg,resV,↓reduceIte,Nat.reduceEqDiff,reduceCtorEq,Nat.reduceAdd,Nat.reduceMul,Nat.reduceLeDiff,quietOp,blindOp,Int.reduceEq,Int.reduceLT,Int.reduceLE,Nat.reduceLT,ti2,ti3,ti4,ti79,ti80,ti28,ti25,ti31,ti22,ti33,ti24,ti67,ti111,ti145,ti136,ti137,ti117,ti100, y0, decide_false, e0]
  refine (szInt64SS_c v1 ll1 _ H1 (h1.same (U1.le hs).row) (by omega) b1 c1).exH ?_
  rintro x1 z1
  refine Holds.mp ?_
  by_cases y1 : x1 < 0
  · try simp (disch := first | omega | (simp only [ints_length, List.length_replicate]; done) | (simp only [ints_length, List.length_replicate]; omega)) only [Sall,evalOp,init,binE,binI,unE,convE,okNil,builtE,gv,TD.isAgg,resV,↓reduceIte,Nat.reduceEqDiff,reduceCtorEq,Nat.reduceAdd,Nat.reduceMul,Nat.reduceLeDiff,quietOp,blindOp,Int.reduceEq,Int.reduceLT,Int.reduceLE,Nat.reduceLT,ti2,ti3,ti4,ti79,ti80,ti28,ti25,ti31,ti22,ti33,ti24,ti67,ti111,ti145,ti136,ti137,ti117,ti100, y1, decide_true]
  have y1' := z1 (by omega)
  try simp (disch := first | omega | (simp only [ints_length, List.length_replicate]; done) | (simp only [ints_length, List.length_replicate]; omega)) only [Sall,evalOp,init,binE,binI,unE,convE,okNil,builtE,gv,TD.isAgg,resV,↓reduceIte,Nat.reduceEqDiff,reduceCtorEq,Nat.reduceAdd,Nat.reduceMul,Nat.reduceLeDiff,quietOp,blindOp,Int.reduceEq,Int.reduceLT,Int.reduceLE,Nat.reduceLT,ti2,ti3,ti4,ti79,ti80,ti28,ti25,ti31,ti22,ti33,ti24,ti67,ti111,ti145,ti136,ti137,ti117,ti100, y1, decide_false, e0]
  have d1 : ∀ y ∈ ll1, y.length ≤ 1048576 := fun y hy => by have := tot_mem hy; omega
  have hL0 : (rankR q0 n0 l0 ll1).length ≤ 4294967296 := by have := rankR_length q0 n0 l0 ll1; omega
  refine (toSchedule_c q0 v0 n0 l0 H1 (h0.same (U1.le hs).row) (by omega)).ex ?_
  rintro u0 H2 ⟨up2, Fu0⟩
  have nx2 := up2.next
  have U2 : Up H.next H H2 := U1.trans up2 (by omega)
  replace e0 : H2.row H.next = some ⟨24, true, [.int .i64 q0, v0]⟩ := by rw [up2.row _ (by omega), e0]
  have Ou0 := Fu0.rd.one
  try simp (disch := first | omega | (simp only [ints_length, List.length_replicate]; done) | (simp only [ints_length, List.length_replicate]; omega)) only [Sall,evalOp,init,binE,binI,unE,convE,okNil,builtE,gv,TD.isAgg,resV,↓reduceIte,Nat.reduceEqDiff,reduceCtorEq,Nat.reduceAdd,Nat.reduceMul,Nat.reduceLeDiff,quietOp,blindOp,Int.reduceEq,Int.reduceLT,Int.reduceLE,Nat.reduceLT,ti2,ti3,ti4,ti79,ti80,ti28,ti25,ti31,ti22,ti33,ti24,ti67,ti111,ti145,ti136,ti137,ti117,ti100, e0, Ou0]
  refine (toInt64SS_c v1 ll1 H2 (h1.same (U2.le hs).row) (by omega) (fun y hy => by have := d1 y hy; omega)).mono ?_
  rintro u1 H3 ⟨up3, Fu1⟩
  have nx3 := up3.next
  have U3 : Up H.next H H3 := U2.trans up3 (by omega)
  replace e0 : H3.row H.next = some ⟨24, true, [.int .i64 q0, v0]⟩ := by rw [up3.row _ (by omega), e0]
  replace Fu0 : Fr 14 80 H1.next H2.next H3 u0 n0 l0 := Fu0.same fun i _ hi => up3.row i (by omega)
  refine Holds.mp ?_
  try simp (disch := first | omega | (simp only [ints_length, List.length_replicate]; done) | (simp only [ints_length, List.length_replicate]; omega)) only [Sall,evalOp,init,binE,binI,unE,convE,okNil,builtE,gv,TD.isAgg,resV,↓reduceIte,Nat.reduceEqDiff,reduceCtorEq,Nat.reduceAdd,Nat.reduceMul,Nat.reduceLeDiff,quietOp,blindOp,Int.reduceEq,Int.reduceLT,Int.reduceLE,Nat.reduceLT,ti2,ti3,ti4,ti79,ti80,ti28,ti25,ti31,ti22,ti33,ti24,ti67,ti111,ti145,ti136,ti137,ti117,ti100, e0, Ou0]
  refine (specRankingOf_c q0 u0 n0 l0 u1 ll1 H3 Fu0.rd (by omega) Fu1.rd (by omega) (fun y hy => by have := d1 y hy; omega)).ex ?_
  rintro w0 H4 ⟨up4, Fw0⟩
  have nx4 := up4.next
  have U4 : Up H.next H H4 := U3.trans up4 (by omega)
  replace e0 : H4.row H.next = some ⟨24, true, [.int .i64 q0, v0]⟩ := by rw [up4.row _ (by omega), e0]
  replace Fu0 : Fr 14 80 H1.next H2.next H4 u0 n0 l0 := Fu0.same fun i _ hi => up4.row i (by omega)
  replace Fu1 : Fr2 1 28 2 H2.next H3.next H4 u1 ll1 := Fu1.same fun i _ hi => up4.row i (by omega)
  have Ow0 := Fw0.rd.one
  try simp (disch := first | omega | (simp only [ints_length, List.length_replicate]; done) | (simp only [ints_length, List.length_replicate]; omega)) only [Sall,evalOp,init,binE,binI,unE,convE,okNil,builtE,gv,TD.isAgg,resV,↓reduceIte,Nat.reduceEqDiff,reduceCtorEq,Nat.reduceAdd,Nat.reduceMul,Nat.reduceLeDiff,quietOp,blindOp,Int.reduceEq,Int.reduceLT,Int.reduceLE,Nat.reduceLT,ti2,ti3,ti4,ti79,ti80,ti28,ti25,ti31,ti22,ti33,ti24,ti67,ti111,ti145,ti136,ti137,ti117,ti100, e0, Ou0, Ow0]
  refine (toSchedule_c q0 v0 n0 l0 H4 (h0.same (U4.le hs).row) (by omega)).ex ?_
  rintro g0 H5 ⟨up5, Fg0⟩
  have nx5 := up5.next
  have U5 : Up H.next H H5 := U4.trans up5 (by omega)
  replace e0 : H5.row H.next = some ⟨24, true, [.int .i64 q0, v0]⟩ := by rw [up5.row _ (by omega), e0]
  replace Fw0 : Fr 1 2 H3.next H4.next H5 w0 _ _ := Fw0.same fun i _ hi => up5.row i (by omega)
  have Og0 := Fg0.rd.one
  try simp (disch := first | omega | (simp only [ints_length, List.length_replicate]; done) | (simp only [ints_length, List.length_replicate]; omega)) only [Sall,evalOp,init,binE,binI,unE,convE,okNil,builtE,gv,TD.isAgg,resV,↓reduceIte,Nat.reduceEqDiff,reduceCtorEq,Nat.reduceAdd,Nat.reduceMul,Nat.reduceLeDiff,quietOp,blindOp,Int.reduceEq,Int.reduceLT,Int.reduceLE,Nat.reduceLT,ti2,ti3,ti4,ti79,ti80,ti28,ti25,ti31,ti22,ti33,ti24,ti67,ti111,ti145,ti136,ti137,ti117,ti100, e0, Ou0, Ow0, Og0]
  obtain ⟨H6, eh⟩ : ∃ K, K = (H5.push ⟨33, true, [.int .i64 0, .slice none 0 0]⟩).setCells H5.next [.int .i64 q0, g0] := ⟨_, rfl⟩
  have up6 : Up H5.next H5 H6 := by rw [eh]; exact ((Up.refl _ _).push (Nat.le_refl _) _).set (Nat.le_refl _) _
  have E0 : H6.row H5.next = some ⟨33, true, [.int .i64 q0, g0]⟩ := by rw [eh, AH.setCells_row, if_pos rfl, AH.push_row, if_pos rfl]; rfl
  have nn6 : H6.next = H5.next + 1 := by rw [eh]; rfl
  rw [← eh]
  clear eh
  have nx6 := up6.next
  have U6 : Up H.next H H6 := U5.trans up6 (by omega)
  replace e0 : H6.row H.next = some ⟨24, true, [.int .i64 q0, v0]⟩ := by rw [up6.row _ (by omega), e0]
  replace Fw0 : Fr 1 2 H3.next H4.next H6 w0 _ _ := Fw0.same fun i _ hi => up6.row i (by omega)
  replace Fg0 : Fr 14 80 H4.next H5.next H6 g0 n0 l0 := Fg0.same fun i _ hi => up6.row i (by omega)
  try simp (disch := first | omega | (simp only [ints_length, List.length_replicate]; done) | (simp only [ints_length, List.length_replicate]; omega)) only [Sall,evalOp,init,binE,binI,unE,convE,okNil,builtE,gv,TD.isAgg,resV,↓reduceIte,Nat.reduceEqDiff,reduceCtorEq,Nat.reduceAdd,Nat.reduceMul,Nat.reduceLeDiff,quietOp,blindOp,Int.reduceEq,Int.reduceLT,Int.reduceLE,Nat.reduceLT,ti2,ti3,ti4,ti79,ti80,ti28,ti25,ti31,ti22,ti33,ti24,ti67,ti111,ti145,ti136,ti137,ti117,ti100, e0, E0, Ou0, Ow0, Og0]
  refine (toInt64SS_c v1 ll1 H6 (h1.same (U6.le hs).row) (by omega) (fun y hy => by have := d1 y hy; omega)).mono ?_
  rintro g1 H7 ⟨up7, Fg1⟩
  have nx7 := up7.next
  have U7 : Up H.next H H7 := U6.trans up7 (by omega)
  replace e0 : H7.row H.next = some ⟨24, true, [.int .i64 q0, v0]⟩ := by rw [up7.row _ (by omega), e0]
  replace E0 : H7.row H5.next = some ⟨33, true, [.int .i64 q0, g0]⟩ := by rw [up7.row _ (by omega), E0]
  replace Fw0 : Fr 1 2 H3.next H4.next H7 w0 _ _ := Fw0.same fun i _ hi => up7.row i (by omega)
  replace Fg0 : Fr 14 80 H4.next H5.next H7 g0 n0 l0 := Fg0.same fun i _ hi => up7.row i (by omega)
  refine Holds.mp ?_
  try simp (disch := first | omega | (simp only [ints_length, List.length_replicate]; done) | (simp only [ints_length, List.length_replicate]; omega)) only [Sall,evalOp,init,binE,binI,unE,convE,okNil,builtE,gv,TD.isAgg,resV,↓reduceIte,Nat.reduceEqDiff,reduceCtorEq,Nat.reduceAdd,Nat.reduceMul,Nat.reduceLeDiff,quietOp,blindOp,Int.reduceEq,Int.reduceLT,Int.reduceLE,Nat.reduceLT,ti2,ti3,ti4,ti79,ti80,ti28,ti25,ti31,ti22,ti33,ti24,ti67,ti111,ti145,ti136,ti137,ti117,ti100, e0, E0, Ou0, Ow0, Og0]
  refine (RankingOf_c q0 g0 n0 l0 g1 ll1 H7 Fg0.rd (by omega) Fg1.rd (by omega) (fun y hy => by have := d1 y hy; omega)).ex ?_
  rintro r0 H8 ⟨up8, Fr0⟩
  have nx8 := up8.next
  have U8 : Up H.next H H8 := U7.trans up8 (by omega)
  replace e0 : H8.row H.next = some ⟨24, true, [.int .i64 q0, v0]⟩ := by rw [up8.row _ (by omega), e0]
  replace E0 : H8.row H5.next = some ⟨33, true, [.int .i64 q0, g0]⟩ := by rw [up8.row _ (by omega), E0]
  replace Fw0 : Fr 1 2 H3.next H4.next H8 w0 _ _ := Fw0.same fun i _ hi => up8.row i (by omega)
  replace Fg0 : Fr 14 80 H4.next H5.next H8 g0 n0 l0 := Fg0.same fun i _ hi => up8.row i (by omega)
  replace Fg1 : Fr2 1 28 2 H6.next H7.next H8 g1 ll1 := Fg1.same fun i _ hi => up8.row i (by omega)
  have Or0 := Fr0.rd.one
  try simp (disch := first | omega | (simp only [ints_length, List.length_replicate]; done) | (simp only [ints_length, List.length_replicate]; omega)) only [Sall,evalOp,init,binE,binI,unE,convE,okNil,builtE,gv,TD.isAgg,resV,↓reduceIte,Nat.reduceEqDiff,reduceCtorEq,Nat.reduceAdd,Nat.reduceMul,Nat.reduceLeDiff,quietOp,blindOp,Int.reduceEq,Int.reduceLT,Int.reduceLE,Nat.reduceLT,ti2,ti3,ti4,ti79,ti80,ti28,ti25,ti31,ti22,ti33,ti24,ti67,ti111,ti145,ti136,ti137,ti117,ti100, e0, E0, Ou0, Ow0, Og0, Or0]
  refine (eqInt64S_c r0 w0 _ _ _ hL0 H8 Fr0.rd Fw0.rd).to ?_
  try simp (disch := first | omega | (simp only [ints_length, List.length_replicate]; done) | (simp only [ints_length, List.length_replicate]; omega)) only [Sall,evalOp,init,binE,binI,unE,convE,okNil,builtE,gv,TD.isAgg,resV,↓reduceIte,Nat.reduceEqDiff,reduceCtorEq,Nat.reduceAdd,Nat.reduceMul,Nat.reduceLeDiff,quietOp,blindOp,Int.reduceEq,Int.reduceLT,Int.reduceLE,Nat.reduceLT,ti2,ti3,ti4,ti79,ti80,ti28,ti25,ti31,ti22,ti33,ti24,ti67,ti111,ti145,ti136,ti137,ti117,ti100, Bool.not_true, bne_self_eq_false, e0, E0, Ou0, Ow0, Og0, Or0]
  refine draw_id (by kernel_rfl) (by kernel_rfl) ?_
  try simp (disch := first | omega | (simp only [ints_length, List.length_replicate]; done) | (simp only [ints_length, List.length_replicate]; omega)) only [Sall,evalOp,init,binE,binI,unE,convE,okNil,builtE,gv,TD.isAgg,resV,↓reduceIte,Nat.reduceEqDiff,reduceCtorEq,Nat.reduceAdd,Nat.reduceMul,Nat.reduceLeDiff,quietOp,blindOp,Int.reduceEq,Int.reduceLT,Int.reduceLE,Nat.reduceLT,ti2,ti3,ti4,ti79,ti80,ti28,ti25,ti31,ti22,ti33,ti24,ti67,ti111,ti145,ti136,ti137,ti117,ti100, e0, E0, Ou0, Ow0, Og0, Or0]
  refine ACalls.wf (by kernel_rfl) fun hs9 => (toSchedule_c q0 v0 n0 l0 H8 (h0.same (U8.le hs).row) (by omega)).ex ?_
  rintro t0 H9 ⟨up9, Ft0⟩
  refine ⟨.inr (.inr (up9.le hs9)), ?_⟩
  have nx9 := up9.next
  have U9 : Up H.next H H9 := U8.trans up9 (by omega)
  replace e0 : H9.row H.next = some ⟨24, true, [.int .i64 q0, v0]⟩ := by rw [up9.row _ (by omega), e0]
  replace E0 : H9.row H5.next = some ⟨33, true, [.int .i64 q0, g0]⟩ := by rw [up9.row _ (by omega), E0]
  replace Fw0 : Fr 1 2 H3.next H4.next H9 w0 _ _ := Fw0.same fun i _ hi => up9.row i (by omega)
  replace Fg0 : Fr 14 80 H4.next H5.next H9 g0 n0 l0 := Fg0.same fun i _ hi => up9.row i (by omega)
  replace Fg1 : Fr2 1 28 2 H6.next H7.next H9 g1 ll1 := Fg1.same fun i _ hi => up9.row i (by omega)
  replace Fr0 : Fr 1 2 H7.next H8.next H9 r0 _ _ := Fr0.same fun i _ hi => up9.row i (by omega)
  try simp (disch := first | omega | (simp only [ints_length, List.length_replicate]; done) | (simp only [ints_length, List.length_replicate]; omega)) only [Sall,evalOp,init,binE,binI,unE,convE,okNil,builtE,gv,TD.isAgg,resV,↓reduceIte,Nat.reduceEqDiff,reduceCtorEq,Nat.reduceAdd,Nat.reduceMul,Nat.reduceLeDiff,quietOp,blindOp,Int.reduceEq,Int.reduceLT,Int.reduceLE,Nat.reduceLT,ti2,ti3,ti4,ti79,ti80,ti28,ti25,ti31,ti22,ti33,ti24,ti67,ti111,ti145,ti136,ti137,ti117,ti100, e0, E0, Ou0, Ow0, Og0, Or0]
  refine (eqSchedule_c g0 t0 q0 n0 l0 (by omega) H9 Fg0.rd Ft0.rd Fg0.rd.one Ft0.rd.one).to ?_
  refine ⟨.inr (.inr (LE.refl _)), ?_⟩
  try simp (disch := first | omega | (simp only [ints_length, List.length_replicate]; done) | (simp only [ints_length, List.length_replicate]; omega)) only [Sall,evalOp,init,binE,binI,unE,convE,okNil,builtE,gv,TD.isAgg,resV,↓reduceIte,Nat.reduceEqDiff,reduceCtorEq,Nat.reduceAdd,Nat.reduceMul,Nat.reduceLeDiff,quietOp,blindOp,Int.reduceEq,Int.reduceLT,Int.reduceLE,Nat.reduceLT,ti2,ti3,ti4,ti79,ti80,ti28,ti25,ti31,ti22,ti33,ti24,ti67,ti111,ti145,ti136,ti137,ti117,ti100, Bool.not_true, e0, E0, Ou0, Ow0, Og0, Or0]
  refine (toInt64SS_c v1 ll1 H9 (h1.same (U9.le hs).row) (by omega) (fun y hy => by have := d1 y hy; omega)).mono ?_
  rintro t1 H10 ⟨up10, Ft1⟩
  have nx10 := up10.next
  have U10 : Up H.next H H10 := U9.trans up10 (by omega)
  replace e0 : H10.row H.next = some ⟨24, true, [.int .i64 q0, v0]⟩ := by rw [up10.row _ (by omega), e0]
  replace E0 : H10.row H5.next = some ⟨33, true, [.int .i64 q0, g0]⟩ := by rw [up10.row _ (by omega), E0]
  replace Fw0 : Fr 1 2 H3.next H4.next H10 w0 _ _ := Fw0.same fun i _ hi => up10.row i (by omega)
  replace Fg0 : Fr 14 80 H4.next H5.next H10 g0 n0 l0 := Fg0.same fun i _ hi => up10.row i (by omega)
  replace Fg1 : Fr2 1 28 2 H6.next H7.next H10 g1 ll1 := Fg1.same fun i _ hi => up10.row i (by omega)
  replace Fr0 : Fr 1 2 H7.next H8.next H10 r0 _ _ := Fr0.same fun i _ hi => up10.row i (by omega)
  refine Holds.mp ?_
  try simp (disch := first | omega | (simp only [ints_length, List.length_replicate]; done) | (simp only [ints_length, List.length_replicate]; omega)) only [Sall,evalOp,init,binE,binI,unE,convE,okNil,builtE,gv,TD.isAgg,resV,↓reduceIte,Nat.reduceEqDiff,reduceCtorEq,Nat.reduceAdd,Nat.reduceMul,Nat.reduceLeDiff,quietOp,blindOp,Int.reduceEq,Int.reduceLT,Int.reduceLE,Nat.reduceLT,ti2,ti3,ti4,ti79,ti80,ti28,ti25,ti31,ti22,ti33,ti24,ti67,ti111,ti145,ti136,ti137,ti117,ti100, e0, E0, Ou0, Ow0, Og0, Or0]
  refine (eqInt64SS_c g1 t1 ll1 (by omega) (fun y hy => by have := d1 y hy; omega) H10 Fg1.rd Ft1.rd).to ?_
  try simp (disch := first | omega | (simp only [ints_length, List.length_replicate]; done) | (simp only [ints_length, List.length_replicate]; omega)) only [Sall,evalOp,init,binE,binI,unE,convE,okNil,builtE,gv,TD.isAgg,resV,↓reduceIte,Nat.reduceEqDiff,reduceCtorEq,Nat.reduceAdd,Nat.reduceMul,Nat.reduceLeDiff,quietOp,blindOp,Int.reduceEq,Int.reduceLT,Int.reduceLE,Nat.reduceLT,ti2,ti3,ti4,ti79,ti80,ti28,ti25,ti31,ti22,ti33,ti24,ti67,ti111,ti145,ti136,ti137,ti117,ti100, Bool.not_true, e0, E0, Ou0, Ow0, Og0, Or0]
  try simp (disch := first | omega | (simp only [ints_length, List.length_replicate]; done) | (simp only [ints_length, List.length_replicate]; omega)) only [Sall,evalOp,init,binE,binI,unE,convE,okNil,builtE,gv,TD.isAgg,resV,↓reduceIte,Nat.reduceEqDiff,reduceCtorEq,Nat.reduceAdd,Nat.reduceMul,Nat.reduceLeDiff,quietOp,blindOp,Int.reduceEq,Int.reduceLT,Int.reduceLE,Nat.reduceLT,ti2,ti3,ti4,ti79,ti80,ti28,ti25,ti31,ti22,ti33,ti24,ti67,ti111,ti145,ti136,ti137,ti117,ti100, e0, E0, Ou0, Ow0, Og0, Or0]
  refine (markSchedule_c _ H4.next H5.next g0 q0 n0 l0 _ (by omega) (by omega) H10 Fg0 (by omega)).fin ?_
  rintro H11 ⟨nx11, sm11, KFg0⟩
  have U11 : Up H.next H H11 := ⟨by have := U10.next; omega, fun i hi => by rw [sm11 i (by omega) (by omega), U10.row i hi]⟩
  replace e0 : H11.row H.next = some ⟨24, true, [.int .i64 q0, v0]⟩ := by rw [sm11 _ (by omega) (by omega), e0]
  replace E0 : H11.row H5.next = some ⟨33, true, [.int .i64 q0, g0]⟩ := by rw [sm11 _ (by omega) (by omega), E0]
  replace Fw0 : Fr 1 2 H3.next H4.next H11 w0 _ _ := Fw0.same fun i _ hi => sm11 i (by omega) (by omega)
  replace Fg1 : Fr2 1 28 2 H6.next H7.next H11 g1 ll1 := Fg1.same fun i _ hi => sm11 i (by omega) (by omega)
  replace Fr0 : Fr 1 2 H7.next H8.next H11 r0 _ _ := Fr0.same fun i _ hi => sm11 i (by omega) (by omega)
  try simp (disch := first | omega | (simp only [ints_length, List.length_replicate]; done) | (simp only [ints_length, List.length_replicate]; omega)) only [Sall,evalOp,init,binE,binI,unE,convE,okNil,builtE,gv,TD.isAgg,resV,↓reduceIte,Nat.reduceEqDiff,reduceCtorEq,Nat.reduceAdd,Nat.reduceMul,Nat.reduceLeDiff,quietOp,blindOp,Int.reduceEq,Int.reduceLT,Int.reduceLE,Nat.reduceLT,ti2,ti3,ti4,ti79,ti80,ti28,ti25,ti31,ti22,ti33,ti24,ti67,ti111,ti145,ti136,ti137,ti117,ti100, e0, E0, Ou0, Ow0, Og0, Or0]
  refine (markInt64SS_c _ _ H6.next H7.next g1 _ _ (by omega) (by omega) (by omega) H11 Fg1).fin ?_
  rintro H12 ⟨nx12, sm12, KFg1⟩
  have U12 : Up H.next H H12 := ⟨by have := U11.next; omega, fun i hi => by rw [sm12 i (by omega), U11.row i hi]⟩
  replace e0 : H12.row H.next = some ⟨24, true, [.int .i64 q0, v0]⟩ := by rw [sm12 _ (by omega), e0]
  replace E0 : H12.row H5.next = some ⟨33, true, [.int .i64 q0, g0]⟩ := by rw [sm12 _ (by omega), E0]
  replace Fw0 : Fr 1 2 H3.next H4.next H12 w0 _ _ := Fw0.same fun i _ hi => sm12 i (by omega)
  replace Fr0 : Fr 1 2 H7.next H8.next H12 r0 _ _ := Fr0.same fun i _ hi => sm12 i (by omega)
  try simp (disch := first | omega | (simp only [ints_length, List.length_replicate]; done) | (simp only [ints_length, List.length_replicate]; omega)) only [Sall,evalOp,init,binE,binI,unE,convE,okNil,builtE,gv,TD.isAgg,resV,↓reduceIte,Nat.reduceEqDiff,reduceCtorEq,Nat.reduceAdd,Nat.reduceMul,Nat.reduceLeDiff,quietOp,blindOp,Int.reduceEq,Int.reduceLT,Int.reduceLE,Nat.reduceLT,ti2,ti3,ti4,ti79,ti80,ti28,ti25,ti31,ti22,ti33,ti24,ti67,ti111,ti145,ti136,ti137,ti117,ti100, e0, E0, Ou0, Ow0, Og0, Or0]
  rw [decide_eq_false (by omega)]
  try simp (disch := first | omega | (simp only [ints_length, List.length_replicate]; done) | (simp only [ints_length, List.length_replicate]; omega)) only [Sall,evalOp,init,binE,binI,unE,convE,okNil,builtE,gv,TD.isAgg,resV,↓reduceIte,Nat.reduceEqDiff,reduceCtorEq,Nat.reduceAdd,Nat.reduceMul,Nat.reduceLeDiff,quietOp,blindOp,Int.reduceEq,Int.reduceLT,Int.reduceLE,Nat.reduceLT,ti2,ti3,ti4,ti79,ti80,ti28,ti25,ti31,ti22,ti33,ti24,ti67,ti111,ti145,ti136,ti137,ti117,ti100, e0, E0, Ou0, Ow0, Og0, Or0]
  refine (eqInt64S_c r0 w0 _ _ _ hL0 H12 Fr0.rd Fw0.rd).to ?_
  try simp (disch := first | omega | (simp only [ints_length, List.length_replicate]; done) | (simp only [ints_length, List.length_replicate]; omega)) only [Sall,evalOp,init,binE,binI,unE,convE,okNil,builtE,gv,TD.isAgg,resV,↓reduceIte,Nat.reduceEqDiff,reduceCtorEq,Nat.reduceAdd,Nat.reduceMul,Nat.reduceLeDiff,quietOp,blindOp,Int.reduceEq,Int.reduceLT,Int.reduceLE,Nat.reduceLT,ti2,ti3,ti4,ti79,ti80,ti28,ti25,ti31,ti22,ti33,ti24,ti67,ti111,ti145,ti136,ti137,ti117,ti100, Bool.not_true, bne_self_eq_false, e0, E0, Ou0, Ow0, Og0, Or0]
  refine (markInt64S_c _ H7.next H8.next r0 _ _ _ (by omega) (by omega) H12 Fr0).fin ?_
  rintro H13 ⟨nx13, sm13, KFr0⟩
  have U13 : Up H.next H H13 := ⟨by have := U12.next; omega, fun i hi => by rw [sm13 i (by omega), U12.row i hi]⟩
  replace e0 : H13.row H.next = some ⟨24, true, [.int .i64 q0, v0]⟩ := by rw [sm13 _ (by omega), e0]
  replace E0 : H13.row H5.next = some ⟨33, true, [.int .i64 q0, g0]⟩ := by rw [sm13 _ (by omega), E0]
  replace Fw0 : Fr 1 2 H3.next H4.next H13 w0 _ _ := Fw0.same fun i _ hi => sm13 i (by omega)
  try simp (disch := first | omega | (simp only [ints_length, List.length_replicate]; done) | (simp only [ints_length, List.length_replicate]; omega)) only [Sall,evalOp,init,binE,binI,unE,convE,okNil,builtE,gv,TD.isAgg,resV,↓reduceIte,Nat.reduceEqDiff,reduceCtorEq,Nat.reduceAdd,Nat.reduceMul,Nat.reduceLeDiff,quietOp,blindOp,Int.reduceEq,Int.reduceLT,Int.reduceLE,Nat.reduceLT,ti2,ti3,ti4,ti79,ti80,ti28,ti25,ti31,ti22,ti33,ti24,ti67,ti111,ti145,ti136,ti137,ti117,ti100, e0, E0, Ou0, Ow0, Og0, Or0]
  refine (heldInt64S_c r0 _ _ (by omega) (by omega) H13 KFr0.rd).to ?_
  try simp (disch := first | omega | (simp only [ints_length, List.length_replicate]; done) | (simp only [ints_length, List.length_replicate]; omega)) only [Sall,evalOp,init,binE,binI,unE,convE,okNil,builtE,gv,TD.isAgg,resV,↓reduceIte,Nat.reduceEqDiff,reduceCtorEq,Nat.reduceAdd,Nat.reduceMul,Nat.reduceLeDiff,quietOp,blindOp,Int.reduceEq,Int.reduceLT,Int.reduceLE,Nat.reduceLT,ti2,ti3,ti4,ti79,ti80,ti28,ti25,ti31,ti22,ti33,ti24,ti67,ti111,ti145,ti136,ti137,ti117,ti100, bne_self_eq_false, beq_self_eq_true, Bool.not_true, e0, E0, Ou0, Ow0, Og0, Or0]
  rw [decide_eq_false (by omega)]
  try simp (disch := first | omega | (simp only [ints_length, List.length_replicate]; done) | (simp only [ints_length, List.length_replicate]; omega)) only [Sall,evalOp,init,binE,binI,unE,convE,okNil,builtE,gv,TD.isAgg,resV,↓reduceIte,Nat.reduceEqDiff,reduceCtorEq,Nat.reduceAdd,Nat.reduceMul,Nat.reduceLeDiff,quietOp,blindOp,Int.reduceEq,Int.reduceLT,Int.reduceLE,Nat.reduceLT,ti2,ti3,ti4,ti79,ti80,ti28,ti25,ti31,ti22,ti33,ti24,ti67,ti111,ti145,ti136,ti137,ti117,ti100, bne_self_eq_false, beq_self_eq_true, Bool.not_true, e0, E0, Ou0, Ow0, Og0, Or0]
  refine (toSchedule_c q0 v0 n0 l0 H13 (h0.same (U13.le hs).row) (by omega)).ex ?_
  rintro x0 H14 ⟨up14, Fx0⟩
  have nx14 := up14.next
  have U14 : Up H.next H H14 := U13.trans up14 (by omega)
  replace e0 : H14.row H.next = some ⟨24, true, [.int .i64 q0, v0]⟩ := by rw [up14.row _ (by omega), e0]
  replace E0 : H14.row H5.next = some ⟨33, true, [.int .i64 q0, g0]⟩ := by rw [up14.row _ (by omega), E0]
  replace Fw0 : Fr 1 2 H3.next H4.next H14 w0 _ _ := Fw0.same fun i _ hi => up14.row i (by omega)
  replace KFr0 : Fr 1 2 H7.next H8.next H14 r0 _ _ := KFr0.same fun i _ hi => up14.row i (by omega)
  have Ox0 := Fx0.rd.one
  try simp (disch := first | omega | (simp only [ints_length, List.length_replicate]; done) | (simp only [ints_length, List.length_replicate]; omega)) only [Sall,evalOp,init,binE,binI,unE,convE,okNil,builtE,gv,TD.isAgg,resV,↓reduceIte,Nat.reduceEqDiff,reduceCtorEq,Nat.reduceAdd,Nat.reduceMul,Nat.reduceLeDiff,quietOp,blindOp,Int.reduceEq,Int.reduceLT,Int.reduceLE,Nat.reduceLT,ti2,ti3,ti4,ti79,ti80,ti28,ti25,ti31,ti22,ti33,ti24,ti67,ti111,ti145,ti136,ti137,ti117,ti100, e0, E0, Ou0, Ow0, Og0, Or0, Ox0]
  refine (toInt64SS_c v1 ll1 H14 (h1.same (U14.le hs).row) (by omega) (fun y hy => by have := d1 y hy; omega)).mono ?_
  rintro x1 H15 ⟨up15, Fx1⟩
  have nx15 := up15.next
  have U15 : Up H.next H H15 := U14.trans up15 (by omega)
  replace e0 : H15.row H.next = some ⟨24, true, [.int .i64 q0, v0]⟩ := by rw [up15.row _ (by omega), e0]
  replace E0 : H15.row H5.next = some ⟨33, true, [.int .i64 q0, g0]⟩ := by rw [up15.row _ (by omega), E0]
  replace Fw0 : Fr 1 2 H3.next H4.next H15 w0 _ _ := Fw0.same fun i _ hi => up15.row i (by omega)
  replace KFr0 : Fr 1 2 H7.next H8.next H15 r0 _ _ := KFr0.same fun i _ hi => up15.row i (by omega)
  replace Fx0 : Fr 14 80 H13.next H14.next H15 x0 n0 l0 := Fx0.same fun i _ hi => up15.row i (by omega)
  refine Holds.mp ?_
  try simp (disch := first | omega | (simp only [ints_length, List.length_replicate]; done) | (simp only [ints_length, List.length_replicate]; omega)) only [Sall,evalOp,init,binE,binI,unE,convE,okNil,builtE,gv,TD.isAgg,resV,↓reduceIte,Nat.reduceEqDiff,reduceCtorEq,Nat.reduceAdd,Nat.reduceMul,Nat.reduceLeDiff,quietOp,blindOp,Int.reduceEq,Int.reduceLT,Int.reduceLE,Nat.reduceLT,ti2,ti3,ti4,ti79,ti80,ti28,ti25,ti31,ti22,ti33,ti24,ti67,ti111,ti145,ti136,ti137,ti117,ti100, e0, E0, Ou0, Ow0, Og0, Or0, Ox0]
  refine (RankingOf_c q0 x0 n0 l0 x1 ll1 H15 Fx0.rd (by omega) Fx1.rd (by omega) (fun y hy => by have := d1 y hy; omega)).ex ?_
  rintro s0 H16 ⟨up16, Fs0⟩
  have nx16 := up16.next
  have U16 : Up H.next H H16 := U15.trans up16 (by omega)
  replace e0 : H16.row H.next = some ⟨24, true, [.int .i64 q0, v0]⟩ := by rw [up16.row _ (by omega), e0]
  replace E0 : H16.row H5.next = some ⟨33, true, [.int .i64 q0, g0]⟩ := by rw [up16.row _ (by omega), E0]
  replace Fw0 : Fr 1 2 H3.next H4.next H16 w0 _ _ := Fw0.same fun i _ hi => up16.row i (by omega)
  replace KFr0 : Fr 1 2 H7.next H8.next H16 r0 _ _ := KFr0.same fun i _ hi => up16.row i (by omega)
  replace Fx0 : Fr 14 80 H13.next H14.next H16 x0 n0 l0 := Fx0.same fun i _ hi => up16.row i (by omega)
  replace Fx1 : Fr2 1 28 2 H14.next H15.next H16 x1 ll1 := Fx1.same fun i _ hi => up16.row i (by omega)
  have Os0 := Fs0.rd.one
  try simp (disch := first | omega | (simp only [ints_length, List.length_replicate]; done) | (simp only [ints_length, List.length_replicate]; omega)) only [Sall,evalOp,init,binE,binI,unE,convE,okNil,builtE,gv,TD.isAgg,resV,↓reduceIte,Nat.reduceEqDiff,reduceCtorEq,Nat.reduceAdd,Nat.reduceMul,Nat.reduceLeDiff,quietOp,blindOp,Int.reduceEq,Int.reduceLT,Int.reduceLE,Nat.reduceLT,ti2,ti3,ti4,ti79,ti80,ti28,ti25,ti31,ti22,ti33,ti24,ti67,ti111,ti145,ti136,ti137,ti117,ti100, e0, E0, Ou0, Ow0, Og0, Or0, Ox0, Os0]
  refine (eqInt64S_c s0 w0 _ _ _ hL0 H16 Fs0.rd Fw0.rd).to ?_
  try simp (disch := first | omega | (simp only [ints_length, List.length_replicate]; done) | (simp only [ints_length, List.length_replicate]; omega)) only [Sall,evalOp,init,binE,binI,unE,convE,okNil,builtE,gv,TD.isAgg,resV,↓reduceIte,Nat.reduceEqDiff,reduceCtorEq,Nat.reduceAdd,Nat.reduceMul,Nat.reduceLeDiff,quietOp,blindOp,Int.reduceEq,Int.reduceLT,Int.reduceLE,Nat.reduceLT,ti2,ti3,ti4,ti79,ti80,ti28,ti25,ti31,ti22,ti33,ti24,ti67,ti111,ti145,ti136,ti137,ti117,ti100, Bool.not_true, bne_self_eq_false, e0, E0, Ou0, Ow0, Og0, Or0, Ox0, Os0]
  refine (heldInt64S_c r0 _ _ (by omega) (by omega) H16 KFr0.rd).to ?_
  try simp (disch := first | omega | (simp only [ints_length, List.length_replicate]; done) | (simp only [ints_length, List.length_replicate]; omega)) only [Sall,evalOp,init,binE,binI,unE,convE,okNil,builtE,gv,TD.isAgg,resV,↓reduceIte,Nat.reduceEqDiff,reduceCtorEq,Nat.reduceAdd,Nat.reduceMul,Nat.reduceLeDiff,quietOp,blindOp,Int.reduceEq,Int.reduceLT,Int.reduceLE,Nat.reduceLT,ti2,ti3,ti4,ti79,ti80,ti28,ti25,ti31,ti22,ti33,ti24,ti67,ti111,ti145,ti136,ti137,ti117,ti100, bne_self_eq_false, beq_self_eq_true, Bool.not_true, e0, E0, Ou0, Ow0, Og0, Or0, Ox0, Os0]
  rw [decide_eq_false (by omega)]
  try simp (disch := first | omega | (simp only [ints_length, List.length_replicate]; done) | (simp only [ints_length, List.length_replicate]; omega)) only [Sall,evalOp,init,binE,binI,unE,convE,okNil,builtE,gv,TD.isAgg,resV,↓reduceIte,Nat.reduceEqDiff,reduceCtorEq,Nat.reduceAdd,Nat.reduceMul,Nat.reduceLeDiff,quietOp,blindOp,Int.reduceEq,Int.reduceLT,Int.reduceLE,Nat.reduceLT,ti2,ti3,ti4,ti79,ti80,ti28,ti25,ti31,ti22,ti33,ti24,ti67,ti111,ti145,ti136,ti137,ti117,ti100, bne_self_eq_false, beq_self_eq_true, Bool.not_true, e0, E0, Ou0, Ow0, Og0, Or0, Ox0, Os0]
end Go.Proofs.Ytbmpkihggipciaa.A
