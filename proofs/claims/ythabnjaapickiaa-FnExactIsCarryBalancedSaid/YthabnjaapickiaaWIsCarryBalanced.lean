/- The walk of the law of IsCarryBalanced. -/
import Derived.Test.YthabnjaapickiaaC17
import Derived.Test.YthabnjaapickiaaL1
import Derived.Test.YthabnjaapickiaaL3
set_option linter.unusedSimpArgs false
set_option linter.unusedVariables false
set_option maxRecDepth 100000
--LEN ints_length, List.length_replicate
namespace Go.Proofs.Ythabnjaapickiaa.A
open Go Go.Abs Go.RowKit

theorem law_IsCarryBalanced_c (q0 : Int) (v0 : Value) (n0 : Nat) (l0 : List Int) (H : AH) (h0 : Rd 14 H v0 n0 l0) (b0 : n0 ≤ 9223372036854775807) :
    ACalls Try.prog 9 [.agg #[.int .i64 q0, v0]] H (fun v _ => v = .bool true ∧ True) := by
  refine ACalls.wf (by kernel_rfl) fun hs => acalls_of_awp [.tmp 2] Try.func9 (by kernel_rfl) rfl rfl (Nat.le_of_ble_eq_true rfl) (by kernel_rfl) ?_
  have o0 := h0.one
  try simp (disch := first | omega | (simp only [ints_length, List.length_replicate]; done) | (simp only [ints_length, List.length_replicate]; omega)) only [Sall,evalOp,init,binE,binI,unE,convE,okNil,builtE,gv,TD.isAgg,resV,↓reduceIte,Nat.reduceEqDiff,reduceCtorEq,Nat.reduceAdd,Nat.reduceMul,Nat.reduceLeDiff,quietOp,blindOp,Int.reduceEq,Int.reduceLT,Int.reduceLE,Nat.reduceLT,ti2,ti3,ti4,ti94,ti95,ti22,ti46,ti28,ti37,ti30,ti39,ti36,ti114,ti32,ti41, o0]
  obtain ⟨H1, eH1⟩ : ∃ H1, H1 = (H.push ⟨39, true, [.int .i64 q0, v0]⟩) := ⟨_, rfl⟩
  have nx1 : H1.next = H.next + 1 := by rw [eH1]; rfl
  have U1 : Up H.next H H1 := by rw [eH1]; exact ((Up.refl _ H).push (by first | omega | (simp only [AH.push_next]; omega)) _)
  have e0 : H1.row H.next = some ⟨39, true, [.int .i64 q0, v0]⟩ := by rw [eH1]; simp [AH.push_row, AH.push_next]
  rw [← eH1]
  clear eH1
  refine (szSchedule_c q0 v0 n0 l0 _ H1 (h0.same (U1.le hs).row) (by omega) b0).to ?_
  obtain ⟨x0, ex0⟩ : ∃ x, x = szL (1048576) n0 := ⟨_, rfl⟩
  rw [← ex0]
  have z0 : 0 ≤ x0 → (n0 : Int) + x0 = 1048576 := by intro hx; unfold szL at ex0; split at ex0 <;> omega
  refine Holds.mp ?_
  by_cases y0 : x0 < 0
  · try simp (disch := first | omega | (simp only [ints_length, List.length_replicate]; done) | (simp only [ints_length, List.length_replicate]; omega)) only [Sall,evalOp,init,binE,binI,unE,convE,okNil,builtE,gv,TD.isAgg,resV,↓reduceIte,Nat.reduceEqDiff,reduceCtorEq,Nat.reduceAdd,Nat.reduceMul,Nat.reduceLeDiff,quietOp,blindOp,Int.reduceEq,Int.reduceLT,Int.reduceLE,Nat.reduceLT,ti2,ti3,ti4,ti94,ti95,ti22,ti46,ti28,ti37,ti30,ti39,ti36,ti114,ti32,ti41, y0, decide_true]
  have y0' := z0 (by omega)
  try simp (disch := first | omega | (simp only [ints_length, List.length_replicate]; done) | (simp only [ints_length, List.length_replicate]; omega)) only [Sall,evalOp,init,binE,binI,unE,convE,okNil,builtE,gv,TD.isAgg,resV,↓reduceIte,Nat.reduceEqDiff,reduceCtorEq,Nat.reduceAdd,Nat.reduceMul,Nat.reduceLeDiff,quietOp,blindOp,Int.reduceEq,Int.reduceLT,Int.reduceLE,Nat.reduceLT,ti2,ti3,ti4,ti94,ti95,ti22,ti46,ti28,ti37,ti30,ti39,ti36,ti114,ti32,ti41, y0, decide_false, e0]
  refine (toSchedule_c q0 v0 n0 l0 H1 (h0.same (U1.le hs).row) (by omega)).ex ?_
  rintro u0 H2 ⟨up2, Fu0⟩
  have nx2 := up2.next
  have U2 : Up H.next H H2 := U1.trans up2 (by omega)
  replace e0 : H2.row H.next = some ⟨39, true, [.int .i64 q0, v0]⟩ := by rw [up2.row _ (by omega), e0]
  have Ou0 := Fu0.rd.one
  try simp (disch := first | omega | (simp only [ints_length, List.length_replicate]; done) | (simp only [ints_length, List.length_replicate]; omega)) only [Sall,evalOp,init,binE,binI,unE,convE,okNil,builtE,gv,TD.isAgg,resV,↓reduceIte,Nat.reduceEqDiff,reduceCtorEq,Nat.reduceAdd,Nat.reduceMul,Nat.reduceLeDiff,quietOp,blindOp,Int.reduceEq,Int.reduceLT,Int.reduceLE,Nat.reduceLT,ti2,ti3,ti4,ti94,ti95,ti22,ti46,ti28,ti37,ti30,ti39,ti36,ti114,ti32,ti41, e0, Ou0]
  refine (specIsCarryBalanced_c q0 u0 n0 l0 H2 Fu0.rd (by omega)).to ?_
  try simp (disch := first | omega | (simp only [ints_length, List.length_replicate]; done) | (simp only [ints_length, List.length_replicate]; omega)) only [Sall,evalOp,init,binE,binI,unE,convE,okNil,builtE,gv,TD.isAgg,resV,↓reduceIte,Nat.reduceEqDiff,reduceCtorEq,Nat.reduceAdd,Nat.reduceMul,Nat.reduceLeDiff,quietOp,blindOp,Int.reduceEq,Int.reduceLT,Int.reduceLE,Nat.reduceLT,ti2,ti3,ti4,ti94,ti95,ti22,ti46,ti28,ti37,ti30,ti39,ti36,ti114,ti32,ti41, e0, Ou0]
  refine (toSchedule_c q0 v0 n0 l0 H2 (h0.same (U2.le hs).row) (by omega)).ex ?_
  rintro g0 H3 ⟨up3, Fg0⟩
  have nx3 := up3.next
  have U3 : Up H.next H H3 := U2.trans up3 (by omega)
  replace e0 : H3.row H.next = some ⟨39, true, [.int .i64 q0, v0]⟩ := by rw [up3.row _ (by omega), e0]
  have Og0 := Fg0.rd.one
  try simp (disch := first | omega | (simp only [ints_length, List.length_replicate]; done) | (simp only [ints_length, List.length_replicate]; omega)) only [Sall,evalOp,init,binE,binI,unE,convE,okNil,builtE,gv,TD.isAgg,resV,↓reduceIte,Nat.reduceEqDiff,reduceCtorEq,Nat.reduceAdd,Nat.reduceMul,Nat.reduceLeDiff,quietOp,blindOp,Int.reduceEq,Int.reduceLT,Int.reduceLE,Nat.reduceLT,ti2,ti3,ti4,ti94,ti95,ti22,ti46,ti28,ti37,ti30,ti39,ti36,ti114,ti32,ti41, e0, Ou0, Og0]
  obtain ⟨H4, eh⟩ : ∃ K, K = (H3.push ⟨30, true, [.int .i64 0, .slice none 0 0]⟩).setCells H3.next [.int .i64 q0, g0] := ⟨_, rfl⟩
  have up4 : Up H3.next H3 H4 := by rw [eh]; exact ((Up.refl _ _).push (Nat.le_refl _) _).set (Nat.le_refl _) _
  have E0 : H4.row H3.next = some ⟨30, true, [.int .i64 q0, g0]⟩ := by rw [eh, AH.setCells_row, if_pos rfl, AH.push_row, if_pos rfl]; rfl
  have nn4 : H4.next = H3.next + 1 := by rw [eh]; rfl
  rw [← eh]
  clear eh
  have nx4 := up4.next
  have U4 : Up H.next H H4 := U3.trans up4 (by omega)
  replace e0 : H4.row H.next = some ⟨39, true, [.int .i64 q0, v0]⟩ := by rw [up4.row _ (by omega), e0]
  replace Fg0 : Fr 14 95 H2.next H3.next H4 g0 n0 l0 := Fg0.same fun i _ hi => up4.row i (by omega)
  try simp (disch := first | omega | (simp only [ints_length, List.length_replicate]; done) | (simp only [ints_length, List.length_replicate]; omega)) only [Sall,evalOp,init,binE,binI,unE,convE,okNil,builtE,gv,TD.isAgg,resV,↓reduceIte,Nat.reduceEqDiff,reduceCtorEq,Nat.reduceAdd,Nat.reduceMul,Nat.reduceLeDiff,quietOp,blindOp,Int.reduceEq,Int.reduceLT,Int.reduceLE,Nat.reduceLT,ti2,ti3,ti4,ti94,ti95,ti22,ti46,ti28,ti37,ti30,ti39,ti36,ti114,ti32,ti41, e0, E0, Ou0, Og0]
  refine (IsCarryBalanced_c q0 g0 n0 l0 H4 Fg0.rd (by omega)).to ?_
  try simp (disch := first | omega | (simp only [ints_length, List.length_replicate]; done) | (simp only [ints_length, List.length_replicate]; omega)) only [Sall,evalOp,init,binE,binI,unE,convE,okNil,builtE,gv,TD.isAgg,resV,↓reduceIte,Nat.reduceEqDiff,reduceCtorEq,Nat.reduceAdd,Nat.reduceMul,Nat.reduceLeDiff,quietOp,blindOp,Int.reduceEq,Int.reduceLT,Int.reduceLE,Nat.reduceLT,ti2,ti3,ti4,ti94,ti95,ti22,ti46,ti28,ti37,ti30,ti39,ti36,ti114,ti32,ti41, e0, E0, Ou0, Og0]
  try simp (disch := first | omega | (simp only [ints_length, List.length_replicate]; done) | (simp only [ints_length, List.length_replicate]; omega)) only [Sall,evalOp,init,binE,binI,unE,convE,okNil,builtE,gv,TD.isAgg,resV,↓reduceIte,Nat.reduceEqDiff,reduceCtorEq,Nat.reduceAdd,Nat.reduceMul,Nat.reduceLeDiff,quietOp,blindOp,Int.reduceEq,Int.reduceLT,Int.reduceLE,Nat.reduceLT,ti2,ti3,ti4,ti94,ti95,ti22,ti46,ti28,ti37,ti30,ti39,ti36,ti114,ti32,ti41, bne_self_eq_false, beq_self_eq_true, Bool.not_true, e0, E0, Ou0, Og0]
  refine draw_id (by kernel_rfl) (by kernel_rfl) ?_
  try simp (disch := first | omega | (simp only [ints_length, List.length_replicate]; done) | (simp only [ints_length, List.length_replicate]; omega)) only [Sall,evalOp,init,binE,binI,unE,convE,okNil,builtE,gv,TD.isAgg,resV,↓reduceIte,Nat.reduceEqDiff,reduceCtorEq,Nat.reduceAdd,Nat.reduceMul,Nat.reduceLeDiff,quietOp,blindOp,Int.reduceEq,Int.reduceLT,Int.reduceLE,Nat.reduceLT,ti2,ti3,ti4,ti94,ti95,ti22,ti46,ti28,ti37,ti30,ti39,ti36,ti114,ti32,ti41, e0, E0, Ou0, Og0]
  refine ACalls.wf (by kernel_rfl) fun hs5 => (toSchedule_c q0 v0 n0 l0 H4 (h0.same (U4.le hs).row) (by omega)).ex ?_
  rintro t0 H5 ⟨up5, Ft0⟩
  refine ⟨.inr (.inr (up5.le hs5)), ?_⟩
  have nx5 := up5.next
  have U5 : Up H.next H H5 := U4.trans up5 (by omega)
  replace e0 : H5.row H.next = some ⟨39, true, [.int .i64 q0, v0]⟩ := by rw [up5.row _ (by omega), e0]
  replace E0 : H5.row H3.next = some ⟨30, true, [.int .i64 q0, g0]⟩ := by rw [up5.row _ (by omega), E0]
  replace Fg0 : Fr 14 95 H2.next H3.next H5 g0 n0 l0 := Fg0.same fun i _ hi => up5.row i (by omega)
  try simp (disch := first | omega | (simp only [ints_length, List.length_replicate]; done) | (simp only [ints_length, List.length_replicate]; omega)) only [Sall,evalOp,init,binE,binI,unE,convE,okNil,builtE,gv,TD.isAgg,resV,↓reduceIte,Nat.reduceEqDiff,reduceCtorEq,Nat.reduceAdd,Nat.reduceMul,Nat.reduceLeDiff,quietOp,blindOp,Int.reduceEq,Int.reduceLT,Int.reduceLE,Nat.reduceLT,ti2,ti3,ti4,ti94,ti95,ti22,ti46,ti28,ti37,ti30,ti39,ti36,ti114,ti32,ti41, e0, E0, Ou0, Og0]
  refine (eqSchedule_c g0 t0 q0 n0 l0 (by omega) H5 Fg0.rd Ft0.rd Fg0.rd.one Ft0.rd.one).to ?_
  refine ⟨.inr (.inr (LE.refl _)), ?_⟩
  try simp (disch := first | omega | (simp only [ints_length, List.length_replicate]; done) | (simp only [ints_length, List.length_replicate]; omega)) only [Sall,evalOp,init,binE,binI,unE,convE,okNil,builtE,gv,TD.isAgg,resV,↓reduceIte,Nat.reduceEqDiff,reduceCtorEq,Nat.reduceAdd,Nat.reduceMul,Nat.reduceLeDiff,quietOp,blindOp,Int.reduceEq,Int.reduceLT,Int.reduceLE,Nat.reduceLT,ti2,ti3,ti4,ti94,ti95,ti22,ti46,ti28,ti37,ti30,ti39,ti36,ti114,ti32,ti41, Bool.not_true, e0, E0, Ou0, Og0]
end Go.Proofs.Ythabnjaapickiaa.A
