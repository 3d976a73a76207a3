/- Contracts: the pairs of a round, on both sides. -/
import Derived.Test.YtbmpkihggipciaaL3
import Derived.Test.YtbmpkihggipciaaC3
import Derived.Test.YtbmpkihggipciaaPl3
set_option linter.unusedSimpArgs false
set_option linter.unusedVariables false
set_option maxRecDepth 100000
--LEN ints_length, List.length_replicate
namespace Go.Proofs.Ytbmpkihggipciaa.A
open Go Go.Abs Go.RowKit

theorem pairs_c (n : Nat) (r : List Int) (hr : r.length = 14) (hn : n ≤ 14) (H : AH) : ACalls Try.prog 140 [.agg (ints r).toArray, .int .i64 n] H (fun v H' => Up H.next H H' ∧ Fr2 1 28 2 H.next H'.next H' v (pairsL r n)) := by
  refine acalls_of_awp [.tmp 4] Try.func140 (by kernel_rfl) rfl rfl (Nat.le_of_ble_eq_true rfl) (by kernel_rfl) ?_
  try simp (disch := first | omega | (simp only [ints_length, List.length_replicate]; done) | (simp only [ints_length, List.length_replicate]; omega)) only [Sall,evalOp,init,binE,binI,unE,convE,okNil,builtE,gv,TD.isAgg,resV,↓reduceIte,Nat.reduceEqDiff,reduceCtorEq,Nat.reduceAdd,Nat.reduceMul,Nat.reduceLeDiff,quietOp,blindOp,Int.reduceEq,Int.reduceLT,Int.reduceLE,Nat.reduceLT,ti2,ti3,ti4,ti79,ti80,ti28,ti25,ti31,ti22,ti33,ti24,ti67,ti111,ti145,ti136,ti137,ti117,ti100, zeros_zero]
  refine awp_loop (fun m t H' => ∃ (a : Nat) (u : Value) (lo hi : Nat), m = n - a ∧ a ≤ n ∧ t 9 = .int .i64 a ∧ t 8 = .int .i64 n ∧ t 5 = u ∧ t 2 = .pointer (some ⟨H.next, 0, none⟩) ∧ Up H.next H H' ∧ H'.row H.next = some ⟨80, true, ints r⟩ ∧
    H.next < lo ∧ lo ≤ hi ∧ hi ≤ H'.next ∧ Fr2 1 28 2 lo hi H' u (pairsL r a)) n ?_ ?_
  · refine ⟨0, .slice (some ⟨H.next + 1, 0, some 1⟩) 0 0, H.next + 1, H.next + 2, by omega, by omega, ?_⟩
    try simp (disch := first | omega | (simp only [ints_length, List.length_replicate]; done) | (simp only [ints_length, List.length_replicate]; omega)) only [Sall,evalOp,init,binE,binI,unE,convE,okNil,builtE,gv,TD.isAgg,resV,↓reduceIte,Nat.reduceEqDiff,reduceCtorEq,Nat.reduceAdd,Nat.reduceMul,Nat.reduceLeDiff,quietOp,blindOp,Int.reduceEq,Int.reduceLT,Int.reduceLE,Nat.reduceLT,ti2,ti3,ti4,ti79,ti80,ti28,ti25,ti31,ti22,ti33,ti24,ti67,ti111,ti145,ti136,ti137,ti117,ti100, Int.natCast_zero]
    refine ⟨((Up.refl _ H).push (by omega) _).push (Nat.le_succ _) _, by omega, by omega, ?_⟩
    exact .inr ⟨H.next + 1, [], fun _ => H.next + 2, by omega, by omega, rfl, by rw [AH.push_row, if_pos (by rw [AH.push_next])], rfl, by dsimp only; omega, by dsimp only; omega, .inl (by dsimp only; omega), fun _ => Nat.le_refl _, fun j hj => by simp [pairsL_zero] at hj⟩
  · rintro m t H' ⟨a, u, lo, hi, hm, h14, h9, h8, h5, h2, hup, hr1, hlo, hlh, hhi, hfr⟩
    try simp (disch := first | omega | (simp only [ints_length, List.length_replicate]; done) | (simp only [ints_length, List.length_replicate]; omega)) only [Sall,evalOp,init,binE,binI,unE,convE,okNil,builtE,gv,TD.isAgg,resV,↓reduceIte,Nat.reduceEqDiff,reduceCtorEq,Nat.reduceAdd,Nat.reduceMul,Nat.reduceLeDiff,quietOp,blindOp,Int.reduceEq,Int.reduceLT,Int.reduceLE,Nat.reduceLT,ti2,ti3,ti4,ti79,ti80,ti28,ti25,ti31,ti22,ti33,ti24,ti67,ti111,ti145,ti136,ti137,ti117,ti100, h9, h8]
    refine condC_dec (fun h => ?_) (fun h => ?_)
    · by_cases hp : (a : Int) < r.getD a 0
      · have hle := pairsL_le r a
        have ne1 : ¬ H.next = H'.next := by omega
        try simp (disch := first | omega | (simp only [ints_length, List.length_replicate]; done) | (simp only [ints_length, List.length_replicate]; omega)) only [Sall,evalOp,init,binE,binI,unE,convE,okNil,builtE,gv,TD.isAgg,resV,↓reduceIte,Nat.reduceEqDiff,reduceCtorEq,Nat.reduceAdd,Nat.reduceMul,Nat.reduceLeDiff,quietOp,blindOp,Int.reduceEq,Int.reduceLT,Int.reduceLE,Nat.reduceLT,ti2,ti3,ti4,ti79,ti80,ti28,ti25,ti31,ti22,ti33,ti24,ti67,ti111,ti145,ti136,ti137,ti117,ti100, h9, h8, h5, h2, hr1, ints_get?, hp, decide_true, zeros_one, zeros_two, slCells, ne1]
        refine ⟨⟨by omega, by omega⟩, ⟨by omega, by omega⟩, ?_⟩
        obtain ⟨H2, e2⟩ : ∃ H2, H2 = (H'.push ⟨2, true, [.int .i64 a, .int .i64 (r.getD a 0)]⟩).push ⟨28, true, [.slice (some ⟨H'.next, 0, some 1⟩) 2 2]⟩ := ⟨_, rfl⟩
        have n2 : H2.next = H'.next + 2 := by rw [e2]; rfl
        have s2 : ∀ i, i < H'.next → H2.row i = H'.row i := fun i hi => by rw [e2, AH.push_row, if_neg (by rw [AH.push_next]; omega), AH.push_row, if_neg (by omega)]
        have x2 : H2.row H'.next = some ⟨2, true, ints [(a : Int), r.getD a 0]⟩ := by rw [e2, AH.push_row, if_neg (by rw [AH.push_next]; omega), AH.push_row, if_pos rfl]; rfl
        rw [← e2]
        clear e2
        refine appE_fr2 (hfr.same fun i _ hi => s2 i (by omega)) (m := 2) (l := [(a : Int), r.getD a 0]) ⟨rfl, .inr ⟨H'.next, by omega, by omega, rfl, x2⟩⟩ rfl (by decide) (by omega) hlh (by omega) ?_
        intro v' H3 n3 s3 f3
        try simp (disch := first | omega | (simp only [ints_length, List.length_replicate]; done) | (simp only [ints_length, List.length_replicate]; omega)) only [Sall,evalOp,init,binE,binI,unE,convE,okNil,builtE,gv,TD.isAgg,resV,↓reduceIte,Nat.reduceEqDiff,reduceCtorEq,Nat.reduceAdd,Nat.reduceMul,Nat.reduceLeDiff,quietOp,blindOp,Int.reduceEq,Int.reduceLT,Int.reduceLE,Nat.reduceLT,ti2,ti3,ti4,ti79,ti80,ti28,ti25,ti31,ti22,ti33,ti24,ti67,ti111,ti145,ti136,ti137,ti117,ti100, h9, h8, h2, w64]
        refine ⟨n - (a + 1), by omega, a + 1, v', lo, H2.next + 1, rfl, by omega, by omega, rfl, ⟨by have := hup.next; omega, fun i hi => ?_⟩, ?_, by omega, by omega, by omega, ?_⟩
        · rw [s3 i (by omega) (by omega), s2 i (by have := hup.next; omega), hup.row i hi]
        · rw [s3 _ (by omega) (by omega), s2 _ (by omega), hr1]
        · rw [pairsL_yes r a hp]; exact f3
      · try simp (disch := first | omega | (simp only [ints_length, List.length_replicate]; done) | (simp only [ints_length, List.length_replicate]; omega)) only [Sall,evalOp,init,binE,binI,unE,convE,okNil,builtE,gv,TD.isAgg,resV,↓reduceIte,Nat.reduceEqDiff,reduceCtorEq,Nat.reduceAdd,Nat.reduceMul,Nat.reduceLeDiff,quietOp,blindOp,Int.reduceEq,Int.reduceLT,Int.reduceLE,Nat.reduceLT,ti2,ti3,ti4,ti79,ti80,ti28,ti25,ti31,ti22,ti33,ti24,ti67,ti111,ti145,ti136,ti137,ti117,ti100, h9, h8, h5, h2, hr1, ints_get?, hp, decide_false, w64]
        refine ⟨⟨by omega, by omega⟩, n - (a + 1), by omega, a + 1, u, lo, hi, rfl, by omega, by omega, ?_⟩
        rw [pairsL_no r a hp]
        and_intros <;> first | omega | rfl | assumption
    · have ha : a = n := by omega
      subst ha
      try simp (disch := first | omega | (simp only [ints_length, List.length_replicate]; done) | (simp only [ints_length, List.length_replicate]; omega)) only [Sall,evalOp,init,binE,binI,unE,convE,okNil,builtE,gv,TD.isAgg,resV,↓reduceIte,Nat.reduceEqDiff,reduceCtorEq,Nat.reduceAdd,Nat.reduceMul,Nat.reduceLeDiff,quietOp,blindOp,Int.reduceEq,Int.reduceLT,Int.reduceLE,Nat.reduceLT,ti2,ti3,ti4,ti79,ti80,ti28,ti25,ti31,ti22,ti33,ti24,ti67,ti111,ti145,ti136,ti137,ti117,ti100, h5]
      exact ⟨hup, hfr.wide (by omega) hhi⟩

theorem l01Pairs_c (n : Nat) (r : List Int) (hr : r.length = 14) (hn : n ≤ 14) (H : AH) : ACalls Try.prog 114 [.int .i64 n, .agg (ints r).toArray] H (fun v H' => Up H.next H H' ∧ Fr2 1 28 2 H.next H'.next H' v (pairsL r n)) := by
  refine acalls_of_awp [.tmp 4] Try.func114 (by kernel_rfl) rfl rfl (Nat.le_of_ble_eq_true rfl) (by kernel_rfl) ?_
  try simp (disch := first | omega | (simp only [ints_length, List.length_replicate]; done) | (simp only [ints_length, List.length_replicate]; omega)) only [Sall,evalOp,init,binE,binI,unE,convE,okNil,builtE,gv,TD.isAgg,resV,↓reduceIte,Nat.reduceEqDiff,reduceCtorEq,Nat.reduceAdd,Nat.reduceMul,Nat.reduceLeDiff,quietOp,blindOp,Int.reduceEq,Int.reduceLT,Int.reduceLE,Nat.reduceLT,ti2,ti3,ti4,ti79,ti80,ti28,ti25,ti31,ti22,ti33,ti24,ti67,ti111,ti145,ti136,ti137,ti117,ti100, zeros_zero]
  refine awp_loop (fun m t H' => ∃ (a : Nat) (u : Value) (lo hi : Nat), m = n - a ∧ a ≤ n ∧ t 6 = .int .i64 a ∧ t 0 = .int .i64 n ∧ t 5 = u ∧ t 3 = .pointer (some ⟨H.next, 0, none⟩) ∧ Up H.next H H' ∧ H'.row H.next = some ⟨80, true, ints r⟩ ∧
    H.next < lo ∧ lo ≤ hi ∧ hi ≤ H'.next ∧ Fr2 1 28 2 lo hi H' u (pairsL r a)) n ?_ ?_
  · refine ⟨0, .slice (some ⟨H.next + 1, 0, some 1⟩) 0 0, H.next + 1, H.next + 2, by omega, by omega, ?_⟩
    try simp (disch := first | omega | (simp only [ints_length, List.length_replicate]; done) | (simp only [ints_length, List.length_replicate]; omega)) only [Sall,evalOp,init,binE,binI,unE,convE,okNil,builtE,gv,TD.isAgg,resV,↓reduceIte,Nat.reduceEqDiff,reduceCtorEq,Nat.reduceAdd,Nat.reduceMul,Nat.reduceLeDiff,quietOp,blindOp,Int.reduceEq,Int.reduceLT,Int.reduceLE,Nat.reduceLT,ti2,ti3,ti4,ti79,ti80,ti28,ti25,ti31,ti22,ti33,ti24,ti67,ti111,ti145,ti136,ti137,ti117,ti100, Int.natCast_zero]
    refine ⟨((Up.refl _ H).push (by omega) _).push (Nat.le_succ _) _, by omega, by omega, ?_⟩
    exact .inr ⟨H.next + 1, [], fun _ => H.next + 2, by omega, by omega, rfl, by rw [AH.push_row, if_pos (by rw [AH.push_next])], rfl, by dsimp only; omega, by dsimp only; omega, .inl (by dsimp only; omega), fun _ => Nat.le_refl _, fun j hj => by simp [pairsL_zero] at hj⟩
  · rintro m t H' ⟨a, u, lo, hi, hm, h14, h9, h8, h5, h2, hup, hr1, hlo, hlh, hhi, hfr⟩
    try simp (disch := first | omega | (simp only [ints_length, List.length_replicate]; done) | (simp only [ints_length, List.length_replicate]; omega)) only [Sall,evalOp,init,binE,binI,unE,convE,okNil,builtE,gv,TD.isAgg,resV,↓reduceIte,Nat.reduceEqDiff,reduceCtorEq,Nat.reduceAdd,Nat.reduceMul,Nat.reduceLeDiff,quietOp,blindOp,Int.reduceEq,Int.reduceLT,Int.reduceLE,Nat.reduceLT,ti2,ti3,ti4,ti79,ti80,ti28,ti25,ti31,ti22,ti33,ti24,ti67,ti111,ti145,ti136,ti137,ti117,ti100, h9, h8]
    refine condC_dec (fun h => ?_) (fun h => ?_)
    · by_cases hp : (a : Int) < r.getD a 0
      · have hle := pairsL_le r a
        have ne1 : ¬ H.next = H'.next := by omega
        try simp (disch := first | omega | (simp only [ints_length, List.length_replicate]; done) | (simp only [ints_length, List.length_replicate]; omega)) only [Sall,evalOp,init,binE,binI,unE,convE,okNil,builtE,gv,TD.isAgg,resV,↓reduceIte,Nat.reduceEqDiff,reduceCtorEq,Nat.reduceAdd,Nat.reduceMul,Nat.reduceLeDiff,quietOp,blindOp,Int.reduceEq,Int.reduceLT,Int.reduceLE,Nat.reduceLT,ti2,ti3,ti4,ti79,ti80,ti28,ti25,ti31,ti22,ti33,ti24,ti67,ti111,ti145,ti136,ti137,ti117,ti100, h9, h8, h5, h2, hr1, ints_get?, hp, decide_true, zeros_one, zeros_two, slCells, ne1]
        refine ⟨⟨by omega, by omega⟩, ⟨by omega, by omega⟩, ?_⟩
        obtain ⟨H2, e2⟩ : ∃ H2, H2 = (H'.push ⟨2, true, [.int .i64 a, .int .i64 (r.getD a 0)]⟩).push ⟨28, true, [.slice (some ⟨H'.next, 0, some 1⟩) 2 2]⟩ := ⟨_, rfl⟩
        have n2 : H2.next = H'.next + 2 := by rw [e2]; rfl
        have s2 : ∀ i, i < H'.next → H2.row i = H'.row i := fun i hi => by rw [e2, AH.push_row, if_neg (by rw [AH.push_next]; omega), AH.push_row, if_neg (by omega)]
        have x2 : H2.row H'.next = some ⟨2, true, ints [(a : Int), r.getD a 0]⟩ := by rw [e2, AH.push_row, if_neg (by rw [AH.push_next]; omega), AH.push_row, if_pos rfl]; rfl
        rw [← e2]
        clear e2
        refine appE_fr2 (hfr.same fun i _ hi => s2 i (by omega)) (m := 2) (l := [(a : Int), r.getD a 0]) ⟨rfl, .inr ⟨H'.next, by omega, by omega, rfl, x2⟩⟩ rfl (by decide) (by omega) hlh (by omega) ?_
        intro v' H3 n3 s3 f3
        try simp (disch := first | omega | (simp only [ints_length, List.length_replicate]; done) | (simp only [ints_length, List.length_replicate]; omega)) only [Sall,evalOp,init,binE,binI,unE,convE,okNil,builtE,gv,TD.isAgg,resV,↓reduceIte,Nat.reduceEqDiff,reduceCtorEq,Nat.reduceAdd,Nat.reduceMul,Nat.reduceLeDiff,quietOp,blindOp,Int.reduceEq,Int.reduceLT,Int.reduceLE,Nat.reduceLT,ti2,ti3,ti4,ti79,ti80,ti28,ti25,ti31,ti22,ti33,ti24,ti67,ti111,ti145,ti136,ti137,ti117,ti100, h9, h8, h2, w64]
        refine ⟨n - (a + 1), by omega, a + 1, v', lo, H2.next + 1, rfl, by omega, by omega, rfl, ⟨by have := hup.next; omega, fun i hi => ?_⟩, ?_, by omega, by omega, by omega, ?_⟩
        · rw [s3 i (by omega) (by omega), s2 i (by have := hup.next; omega), hup.row i hi]
        · rw [s3 _ (by omega) (by omega), s2 _ (by omega), hr1]
        · rw [pairsL_yes r a hp]; exact f3
      · try simp (disch := first | omega | (simp only [ints_length, List.length_replicate]; done) | (simp only [ints_length, List.length_replicate]; omega)) only [Sall,evalOp,init,binE,binI,unE,convE,okNil,builtE,gv,TD.isAgg,resV,↓reduceIte,Nat.reduceEqDiff,reduceCtorEq,Nat.reduceAdd,Nat.reduceMul,Nat.reduceLeDiff,quietOp,blindOp,Int.reduceEq,Int.reduceLT,Int.reduceLE,Nat.reduceLT,ti2,ti3,ti4,ti79,ti80,ti28,ti25,ti31,ti22,ti33,ti24,ti67,ti111,ti145,ti136,ti137,ti117,ti100, h9, h8, h5, h2, hr1, ints_get?, hp, decide_false, w64]
        refine ⟨⟨by omega, by omega⟩, n - (a + 1), by omega, a + 1, u, lo, hi, rfl, by omega, by omega, ?_⟩
        rw [pairsL_no r a hp]
        and_intros <;> first | omega | rfl | assumption
    · have ha : a = n := by omega
      subst ha
      try simp (disch := first | omega | (simp only [ints_length, List.length_replicate]; done) | (simp only [ints_length, List.length_replicate]; omega)) only [Sall,evalOp,init,binE,binI,unE,convE,okNil,builtE,gv,TD.isAgg,resV,↓reduceIte,Nat.reduceEqDiff,reduceCtorEq,Nat.reduceAdd,Nat.reduceMul,Nat.reduceLeDiff,quietOp,blindOp,Int.reduceEq,Int.reduceLT,Int.reduceLE,Nat.reduceLT,ti2,ti3,ti4,ti79,ti80,ti28,ti25,ti31,ti22,ti33,ti24,ti67,ti111,ti145,ti136,ti137,ti117,ti100, h5]
      exact ⟨hup, hfr.wide (by omega) hhi⟩
end Go.Proofs.Ytbmpkihggipciaa.A
