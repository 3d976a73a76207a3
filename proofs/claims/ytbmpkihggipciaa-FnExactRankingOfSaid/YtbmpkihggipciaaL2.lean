/- Contracts of the laws' own helpers: sizes of what is given, and copies of it in the program's types. -/
import Derived.Test.YtbmpkihggipciaaC2
set_option linter.unusedSimpArgs false
set_option linter.unusedVariables false
set_option maxRecDepth 100000
--LEN ints_length, List.length_replicate
namespace Go.Proofs.Ytbmpkihggipciaa.A
open Go Go.Abs Go.RowKit

def szL (left n : Int) : Int := if left - n < 0 then -1 else left - n

theorem szRoundS_c (v : Value) (n : Nat) (l : List Int) (left : Int) (H : AH) (hv : Rd 14 H v n l) (hl : 0 ≤ left ∧ left ≤ 1048576) (hn : n ≤ 9223372036854775807) :
    ACalls Try.prog 53 [v, .int .i64 left] H (is (.int .i64 (szL left n)) H) := by
  refine acalls_of_awp [.tmp 4] Try.func53 (by kernel_rfl) rfl rfl (Nat.le_of_ble_eq_true rfl) (by kernel_rfl) ?_
  by_cases h : left - n < 0
  · try simp (disch := first | omega | (simp only [ints_length, List.length_replicate]; done) | (simp only [ints_length, List.length_replicate]; omega)) only [Sall,evalOp,init,binE,binI,unE,convE,okNil,builtE,gv,TD.isAgg,resV,↓reduceIte,Nat.reduceEqDiff,reduceCtorEq,Nat.reduceAdd,Nat.reduceMul,Nat.reduceLeDiff,quietOp,blindOp,Int.reduceEq,Int.reduceLT,Int.reduceLE,Nat.reduceLT,ti2,ti3,ti4,ti79,ti80,ti28,ti25,ti31,ti22,ti33,ti24,ti67,ti111,ti145,ti136,ti137,ti117,ti100, builtE, hv.len, w64, h, decide_true, is, szL]
  · try simp (disch := first | omega | (simp only [ints_length, List.length_replicate]; done) | (simp only [ints_length, List.length_replicate]; omega)) only [Sall,evalOp,init,binE,binI,unE,convE,okNil,builtE,gv,TD.isAgg,resV,↓reduceIte,Nat.reduceEqDiff,reduceCtorEq,Nat.reduceAdd,Nat.reduceMul,Nat.reduceLeDiff,quietOp,blindOp,Int.reduceEq,Int.reduceLT,Int.reduceLE,Nat.reduceLT,ti2,ti3,ti4,ti79,ti80,ti28,ti25,ti31,ti22,ti33,ti24,ti67,ti111,ti145,ti136,ti137,ti117,ti100, builtE, hv.len, w64, h, decide_false, is, szL]

theorem szSchedule_c (q : Int) (v : Value) (n : Nat) (l : List Int) (left : Int) (H : AH) (hv : Rd 14 H v n l) (hl : 0 ≤ left ∧ left ≤ 1048576) (hn : n ≤ 9223372036854775807) :
    ACalls Try.prog 15 [.agg #[.int .i64 q, v], .int .i64 left] H (is (.int .i64 (szL left n)) H) := by
  refine ACalls.wf (by kernel_rfl) fun hs => acalls_up rfl (acalls_of_awp [.tmp 4] Try.func15 (by kernel_rfl) rfl rfl (Nat.le_of_ble_eq_true rfl) (by kernel_rfl) ?_)
  have up : Up H.next H (H.push ⟨24, true, [.int .i64 q, v]⟩) := (Up.refl _ H).push (Nat.le_refl _) _
  try simp (disch := first | omega | (simp only [ints_length, List.length_replicate]; done) | (simp only [ints_length, List.length_replicate]; omega)) only [Sall,evalOp,init,binE,binI,unE,convE,okNil,builtE,gv,TD.isAgg,resV,↓reduceIte,Nat.reduceEqDiff,reduceCtorEq,Nat.reduceAdd,Nat.reduceMul,Nat.reduceLeDiff,quietOp,blindOp,Int.reduceEq,Int.reduceLT,Int.reduceLE,Nat.reduceLT,ti2,ti3,ti4,ti79,ti80,ti28,ti25,ti31,ti22,ti33,ti24,ti67,ti111,ti145,ti136,ti137,ti117,ti100, true_and]
  refine (szRoundS_c v n l left _ (hv.same (up.le hs).row) hl hn).to ?_
  by_cases h : left - n < 0
  · have e : szL left n = -1 := by unfold szL; rw [if_pos h]
    try simp (disch := first | omega | (simp only [ints_length, List.length_replicate]; done) | (simp only [ints_length, List.length_replicate]; omega)) only [Sall,evalOp,init,binE,binI,unE,convE,okNil,builtE,gv,TD.isAgg,resV,↓reduceIte,Nat.reduceEqDiff,reduceCtorEq,Nat.reduceAdd,Nat.reduceMul,Nat.reduceLeDiff,quietOp,blindOp,Int.reduceEq,Int.reduceLT,Int.reduceLE,Nat.reduceLT,ti2,ti3,ti4,ti79,ti80,ti28,ti25,ti31,ti22,ti33,ti24,ti67,ti111,ti145,ti136,ti137,ti117,ti100, e, decide_true]
    exact up
  · have e : szL left n = left - n := by unfold szL; rw [if_neg h]
    try simp (disch := first | omega | (simp only [ints_length, List.length_replicate]; done) | (simp only [ints_length, List.length_replicate]; omega)) only [Sall,evalOp,init,binE,binI,unE,convE,okNil,builtE,gv,TD.isAgg,resV,↓reduceIte,Nat.reduceEqDiff,reduceCtorEq,Nat.reduceAdd,Nat.reduceMul,Nat.reduceLeDiff,quietOp,blindOp,Int.reduceEq,Int.reduceLT,Int.reduceLE,Nat.reduceLT,ti2,ti3,ti4,ti79,ti80,ti28,ti25,ti31,ti22,ti33,ti24,ti67,ti111,ti145,ti136,ti137,ti117,ti100, e, h, decide_false]
    exact up

theorem toRound_c (r : List Int) (hr : r.length = 14) (H : AH) : ACalls Try.prog 116 [.agg (ints r).toArray] H (is (.agg (ints r).toArray) H) := by
  refine acalls_up (flat_ints _) (acalls_of_awp [.cell 2 80] Try.func116 (by kernel_rfl) rfl rfl (Nat.le_of_ble_eq_true rfl) (by kernel_rfl) ?_)
  try simp (disch := first | omega | (simp only [ints_length, List.length_replicate]; done) | (simp only [ints_length, List.length_replicate]; omega)) only [Sall,evalOp,init,binE,binI,unE,convE,okNil,builtE,gv,TD.isAgg,resV,↓reduceIte,Nat.reduceEqDiff,reduceCtorEq,Nat.reduceAdd,Nat.reduceMul,Nat.reduceLeDiff,quietOp,blindOp,Int.reduceEq,Int.reduceLT,Int.reduceLE,Nat.reduceLT,ti2,ti3,ti4,ti79,ti80,ti28,ti25,ti31,ti22,ti33,ti24,ti67,ti111,ti145,ti136,ti137,ti117,ti100, true_and]
  refine awp_loop (fun m t H' => ∃ a : Nat, m = 14 - a ∧ a ≤ 14 ∧ t 4 = .int .i64 a ∧ t 1 = .pointer (some ⟨H.next, 0, none⟩) ∧ t 2 = .pointer (some ⟨H.next + 1, 0, none⟩) ∧ t 3 = .pointer (some ⟨H.next + 2, 0, none⟩) ∧ Up H.next H H' ∧
    H'.row H.next = some ⟨79, true, ints r⟩ ∧ H'.row (H.next + 1) = some ⟨80, true, ints (List.replicate 14 0)⟩ ∧ H'.row (H.next + 2) = some ⟨80, true, ints (copyL 1 r 14 a)⟩) 14 ?_ ?_
  · refine ⟨0, by omega, by omega, ?_⟩
    try simp (disch := first | omega | (simp only [ints_length, List.length_replicate]; done) | (simp only [ints_length, List.length_replicate]; omega)) only [Sall,evalOp,init,binE,binI,unE,convE,okNil,builtE,gv,TD.isAgg,resV,↓reduceIte,Nat.reduceEqDiff,reduceCtorEq,Nat.reduceAdd,Nat.reduceMul,Nat.reduceLeDiff,quietOp,blindOp,Int.reduceEq,Int.reduceLT,Int.reduceLE,Nat.reduceLT,ti2,ti3,ti4,ti79,ti80,ti28,ti25,ti31,ti22,ti33,ti24,ti67,ti111,ti145,ti136,ti137,ti117,ti100, Int.natCast_zero]
    refine ⟨((((Up.refl _ H).push (by omega) _).push (Nat.le_succ _) _).push (Nat.le_succ_of_le (Nat.le_succ _)) _), ?_⟩
    rw [copyL_zero]
  · rintro m t H' ⟨a, hm, h14, h4, h1, h2, h3, hup, hr0, hr1, hr2⟩
    try simp (disch := first | omega | (simp only [ints_length, List.length_replicate]; done) | (simp only [ints_length, List.length_replicate]; omega)) only [Sall,evalOp,init,binE,binI,unE,convE,okNil,builtE,gv,TD.isAgg,resV,↓reduceIte,Nat.reduceEqDiff,reduceCtorEq,Nat.reduceAdd,Nat.reduceMul,Nat.reduceLeDiff,quietOp,blindOp,Int.reduceEq,Int.reduceLT,Int.reduceLE,Nat.reduceLT,ti2,ti3,ti4,ti79,ti80,ti28,ti25,ti31,ti22,ti33,ti24,ti67,ti111,ti145,ti136,ti137,ti117,ti100, h4]
    refine condC_dec (fun h => ?_) (fun h => ?_)
    · have hl := copyL_length 1 r 14 a (by omega) (by omega)
      have hst := copyL_set r 14 a hr (by omega)
      try simp (disch := first | omega | (simp only [ints_length, List.length_replicate]; done) | (simp only [ints_length, List.length_replicate]; omega)) only [Sall,evalOp,init,binE,binI,unE,convE,okNil,builtE,gv,TD.isAgg,resV,↓reduceIte,Nat.reduceEqDiff,reduceCtorEq,Nat.reduceAdd,Nat.reduceMul,Nat.reduceLeDiff,quietOp,blindOp,Int.reduceEq,Int.reduceLT,Int.reduceLE,Nat.reduceLT,ti2,ti3,ti4,ti79,ti80,ti28,ti25,ti31,ti22,ti33,ti24,ti67,ti111,ti145,ti136,ti137,ti117,ti100, h4, h1, h3, hr0, hr1, hr2, ints_get?, ints_set, hl, hst, w64]
      exact ⟨⟨by omega, by omega⟩, ⟨by omega, by omega⟩, by omega, 14 - (a + 1), by omega, a + 1, rfl, by omega, by omega, h2, hup.set (by omega) _, rfl⟩
    · have ha : a = 14 := by omega
      subst ha
      rw [copyL_all 1 r 14 (by omega)] at hr2
      try simp (disch := first | omega | (simp only [ints_length, List.length_replicate]; done) | (simp only [ints_length, List.length_replicate]; omega)) only [Sall,evalOp,init,binE,binI,unE,convE,okNil,builtE,gv,TD.isAgg,resV,↓reduceIte,Nat.reduceEqDiff,reduceCtorEq,Nat.reduceAdd,Nat.reduceMul,Nat.reduceLeDiff,quietOp,blindOp,Int.reduceEq,Int.reduceLT,Int.reduceLE,Nat.reduceLT,ti2,ti3,ti4,ti79,ti80,ti28,ti25,ti31,ti22,ti33,ti24,ti67,ti111,ti145,ti136,ti137,ti117,ti100, h4, h2, h3, hr0, hr1, hr2, hr]
      exact hup.set (by omega) _

theorem toRoundS_c (v : Value) (n : Nat) (l : List Int) (H : AH) (hv : Rd 14 H v n l) (hn : n ≤ 4194304) :
    ACalls Try.prog 57 [v] H (fun u H' => Up H.next H H' ∧ Fr 14 80 H.next H'.next H' u n l) := by
  refine ACalls.wf (by kernel_rfl) fun hs => acalls_of_awp [.tmp 2] Try.func57 (by kernel_rfl) rfl rfl (Nat.le_of_ble_eq_true rfl) (by kernel_rfl) ?_
  have up : ∀ cs, Up H.next H (H.push ⟨80, true, cs⟩) := fun cs => (Up.refl _ H).push (Nat.le_refl _) _
  have hv1 : ∀ cs, Rd 14 (H.push ⟨80, true, cs⟩) v n l := fun cs => hv.same ((up cs).le hs).row
  try simp (disch := first | omega | (simp only [ints_length, List.length_replicate]; done) | (simp only [ints_length, List.length_replicate]; omega)) only [Sall,evalOp,init,binE,binI,unE,convE,okNil,builtE,gv,TD.isAgg,resV,↓reduceIte,Nat.reduceEqDiff,reduceCtorEq,Nat.reduceAdd,Nat.reduceMul,Nat.reduceLeDiff,quietOp,blindOp,Int.reduceEq,Int.reduceLT,Int.reduceLE,Nat.reduceLT,ti2,ti3,ti4,ti79,ti80,ti28,ti25,ti31,ti22,ti33,ti24,ti67,ti111,ti145,ti136,ti137,ti117,ti100, builtE, hv.len, zeros_ints]
  refine ⟨by omega, ?_⟩
  refine awp_loop (fun m t H' => ∃ a : Nat, m = n - a ∧ a ≤ n ∧ t 4 = .int .i64 a ∧ t 0 = v ∧ t 3 = .slice (some ⟨H.next, 0, some 14⟩) n n ∧ H' = H.push ⟨80, true, ints (copyL 14 l n a)⟩) n ?_ ?_
  · refine ⟨0, by omega, by omega, ?_⟩
    try simp (disch := first | omega | (simp only [ints_length, List.length_replicate]; done) | (simp only [ints_length, List.length_replicate]; omega)) only [Sall,evalOp,init,binE,binI,unE,convE,okNil,builtE,gv,TD.isAgg,resV,↓reduceIte,Nat.reduceEqDiff,reduceCtorEq,Nat.reduceAdd,Nat.reduceMul,Nat.reduceLeDiff,quietOp,blindOp,Int.reduceEq,Int.reduceLT,Int.reduceLE,Nat.reduceLT,ti2,ti3,ti4,ti79,ti80,ti28,ti25,ti31,ti22,ti33,ti24,ti67,ti111,ti145,ti136,ti137,ti117,ti100, Int.natCast_zero, copyL_zero]
  · rintro m t H' ⟨a, hm, h14, h4, h0, h3, rfl⟩
    try simp (disch := first | omega | (simp only [ints_length, List.length_replicate]; done) | (simp only [ints_length, List.length_replicate]; omega)) only [Sall,evalOp,init,binE,binI,unE,convE,okNil,builtE,gv,TD.isAgg,resV,↓reduceIte,Nat.reduceEqDiff,reduceCtorEq,Nat.reduceAdd,Nat.reduceMul,Nat.reduceLeDiff,quietOp,blindOp,Int.reduceEq,Int.reduceLT,Int.reduceLE,Nat.reduceLT,ti2,ti3,ti4,ti79,ti80,ti28,ti25,ti31,ti22,ti33,ti24,ti67,ti111,ti145,ti136,ti137,ti117,ti100, h4, h0, builtE, hv.len]
    refine condC_dec (fun h => ?_) (fun h => ?_)
    · have hst := copyL_step 14 l n a hv.1 (by omega)
      have hcl := copyL_length 14 l n a hv.1 (by omega)
      obtain ⟨i, o, u, c, r, rfl, hr, hc, hs1, hg⟩ := hv.get (by omega)
      have hne : ¬ i = H.next := by have := hs _ _ hr; omega
      try simp (disch := first | omega | (simp only [ints_length, List.length_replicate]; done) | (simp only [ints_length, List.length_replicate]; omega)) only [Sall,evalOp,init,binE,binI,unE,convE,okNil,builtE,gv,TD.isAgg,resV,↓reduceIte,Nat.reduceEqDiff,reduceCtorEq,Nat.reduceAdd,Nat.reduceMul,Nat.reduceLeDiff,quietOp,blindOp,Int.reduceEq,Int.reduceLT,Int.reduceLE,Nat.reduceLT,ti2,ti3,ti4,ti79,ti80,ti28,ti25,ti31,ti22,ti33,ti24,ti67,ti111,ti145,ti136,ti137,ti117,ti100, h4, h0, h3, hr, hne, hg]
      have hll : ((l.drop (a * 14)).take 14).length = 14 := by rw [List.length_take, List.length_drop, hv.1]; omega
      refine ⟨⟨by omega, by omega⟩, by omega, (toRound_c _ hll _).to ?_⟩
      try simp (disch := first | omega | (simp only [ints_length, List.length_replicate]; done) | (simp only [ints_length, List.length_replicate]; omega)) only [Sall,evalOp,init,binE,binI,unE,convE,okNil,builtE,gv,TD.isAgg,resV,↓reduceIte,Nat.reduceEqDiff,reduceCtorEq,Nat.reduceAdd,Nat.reduceMul,Nat.reduceLeDiff,quietOp,blindOp,Int.reduceEq,Int.reduceLT,Int.reduceLE,Nat.reduceLT,ti2,ti3,ti4,ti79,ti80,ti28,ti25,ti31,ti22,ti33,ti24,ti67,ti111,ti145,ti136,ti137,ti117,ti100, h4, h0, h3, hll, hcl, hst, push_setCells, w64]
      refine ⟨⟨by omega, by omega⟩, by omega, n - (a + 1), by omega, a + 1, ?_⟩
      and_intros <;> first | omega | rfl | assumption
    · have ha : a = n := by omega
      subst ha
      try simp (disch := first | omega | (simp only [ints_length, List.length_replicate]; done) | (simp only [ints_length, List.length_replicate]; omega)) only [Sall,evalOp,init,binE,binI,unE,convE,okNil,builtE,gv,TD.isAgg,resV,↓reduceIte,Nat.reduceEqDiff,reduceCtorEq,Nat.reduceAdd,Nat.reduceMul,Nat.reduceLeDiff,quietOp,blindOp,Int.reduceEq,Int.reduceLT,Int.reduceLE,Nat.reduceLT,ti2,ti3,ti4,ti79,ti80,ti28,ti25,ti31,ti22,ti33,ti24,ti67,ti111,ti145,ti136,ti137,ti117,ti100, h3]
      rw [copyL_all 14 l a hv.1]
      exact ⟨up _, hv.1, .inr ⟨H.next, Nat.le_refl _, Nat.lt_succ_self _, rfl, by rw [AH.push_row, if_pos rfl]⟩⟩

/-- A result that is a value known but for a part: told as there is one. -/
theorem toSchedule_c (q : Int) (v : Value) (n : Nat) (l : List Int) (H : AH) (hv : Rd 14 H v n l) (hn : n ≤ 4194304) :
    ACalls Try.prog 18 [.agg #[.int .i64 q, v]] H (FrS q n l H) := by
  refine ACalls.wf (by kernel_rfl) fun hs => acalls_of_awp [.cell 2 33] Try.func18 (by kernel_rfl) rfl rfl (Nat.le_of_ble_eq_true rfl) (by kernel_rfl) ?_
  have k0 := hv.one
  try simp (disch := first | omega | (simp only [ints_length, List.length_replicate]; done) | (simp only [ints_length, List.length_replicate]; omega)) only [Sall,evalOp,init,binE,binI,unE,convE,okNil,builtE,gv,TD.isAgg,resV,↓reduceIte,Nat.reduceEqDiff,reduceCtorEq,Nat.reduceAdd,Nat.reduceMul,Nat.reduceLeDiff,quietOp,blindOp,Int.reduceEq,Int.reduceLT,Int.reduceLE,Nat.reduceLT,ti2,ti3,ti4,ti79,ti80,ti28,ti25,ti31,ti22,ti33,ti24,ti67,ti111,ti145,ti136,ti137,ti117,ti100, k0]
  obtain ⟨H1, e1⟩ : ∃ H1, H1 = (((H.push ⟨24, true, [.int .i64 q, v]⟩).push ⟨33, true, [.int .i64 0, .slice none 0 0]⟩).push ⟨33, true, [.int .i64 0, .slice none 0 0]⟩).setCells (H.next + 2) [.int .i64 q, .slice none 0 0] := ⟨_, rfl⟩
  have up : Up H.next H H1 := by rw [e1]; exact ((((Up.refl _ H).push (by omega) _).push (Nat.le_succ _) _).push (Nat.le_succ_of_le (Nat.le_succ _)) _).set (by omega) _
  have n1 : H1.next = H.next + 3 := by rw [e1]; rfl
  have a0 : H1.row (H.next + 1) = some ⟨33, true, [.int .i64 0, .slice none 0 0]⟩ := by rw [e1]; simp [AH.setCells_row, AH.push_row, AH.push_next]
  have a1 : H1.row (H.next + 2) = some ⟨33, true, [.int .i64 q, .slice none 0 0]⟩ := by rw [e1]; simp [AH.setCells_row, AH.push_row, AH.push_next]
  rw [← e1]
  clear e1
  refine (toRoundS_c v n l H1 (hv.same (up.le hs).row) hn).mono ?_
  rintro u H2 ⟨up2, hfr⟩
  have b0 : H2.row (H.next + 1) = some ⟨33, true, [.int .i64 0, .slice none 0 0]⟩ := by rw [up2.row _ (by omega), a0]
  have b1 : H2.row (H.next + 2) = some ⟨33, true, [.int .i64 q, .slice none 0 0]⟩ := by rw [up2.row _ (by omega), a1]
  have k1 := hfr.rd.one
  have n2 := up2.next
  have ne1 : ¬ (H.next + 1 = H.next + 2) := by omega
  refine Holds.mp ?_
  try simp (disch := first | omega | (simp only [ints_length, List.length_replicate]; done) | (simp only [ints_length, List.length_replicate]; omega)) only [Sall,evalOp,init,binE,binI,unE,convE,okNil,builtE,gv,TD.isAgg,resV,↓reduceIte,Nat.reduceEqDiff,reduceCtorEq,Nat.reduceAdd,Nat.reduceMul,Nat.reduceLeDiff,quietOp,blindOp,Int.reduceEq,Int.reduceLT,Int.reduceLE,Nat.reduceLT,ti2,ti3,ti4,ti79,ti80,ti28,ti25,ti31,ti22,ti33,ti24,ti67,ti111,ti145,ti136,ti137,ti117,ti100, b0, b1, k1, ne1]
  refine ⟨u, rfl, ⟨by simp only [AH.setCells_next]; omega, fun i hi => ?_⟩, ?_⟩
  · rw [AH.setCells_row, if_neg (by omega), AH.setCells_row, if_neg (by omega), up2.row i (by omega), up.row i hi]
  · refine (Fr.same (Fr.wide hfr (lo' := H1.next) (hi' := H2.next) (by omega) (by omega)) ?_).wide (by omega) (by simp only [AH.setCells_next]; omega)
    intro i hi _
    rw [AH.setCells_row, if_neg (by omega), AH.setCells_row, if_neg (by omega)]

end Go.Proofs.Ytbmpkihggipciaa.A
