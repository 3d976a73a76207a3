/- Contracts: comparing, sorting by insertion, the ranking, on both sides. -/
import Derived.Test.YtbmpkihggipciaaC20
import Derived.Test.YtbmpkihggipciaaC11
import Derived.Test.YtbmpkihggipciaaC18
import Derived.Test.YtbmpkihggipciaaPl17
import Derived.Test.YtbmpkihggipciaaAbs21
set_option linter.unusedSimpArgs false
set_option linter.unusedVariables false
set_option maxRecDepth 100000
set_option maxHeartbeats 2000000
--LEN ints_length, List.length_replicate, List.length_set
namespace Go.Proofs.Ytbmpkihggipciaa.A
open Go Go.Abs Go.RowKit

theorem isNaN_c (x : Int) (H : AH) : ACalls Try.prog 182 [.int .i64 x] H (is (.bool false) H) := by
  refine acalls_of_awp [.tmp 2] Try.func182 (by kernel_rfl) rfl rfl (Nat.le_of_ble_eq_true rfl) (by kernel_rfl) ?_
  try simp (disch := first | omega | (simp only [ints_length, List.length_replicate, List.length_set]; done) | (simp only [ints_length, List.length_replicate, List.length_set]; omega)) only [Sall,evalOp,init,binE,binI,unE,convE,okNil,builtE,gv,TD.isAgg,resV,↓reduceIte,Nat.reduceEqDiff,reduceCtorEq,Nat.reduceAdd,Nat.reduceMul,Nat.reduceLeDiff,quietOp,blindOp,Int.reduceEq,Int.reduceLT,Int.reduceLE,Nat.reduceLT,ti2,ti3,ti4,ti79,ti80,ti28,ti25,ti31,ti22,ti33,ti24,ti67,ti111,ti145,ti136,ti137,ti117,ti100, bne_self_eq_false, is]

theorem compare_c (x y : Int) (H : AH) : ACalls Try.prog 159 [.int .i64 x, .int .i64 y] H (is (.int .i64 (cmpI x y)) H) := by
  refine acalls_of_awp [.tmp 4] Try.func159 (by kernel_rfl) rfl rfl (Nat.le_of_ble_eq_true rfl) (by kernel_rfl) ?_
  try simp (disch := first | omega | (simp only [ints_length, List.length_replicate, List.length_set]; done) | (simp only [ints_length, List.length_replicate, List.length_set]; omega)) only [Sall,evalOp,init,binE,binI,unE,convE,okNil,builtE,gv,TD.isAgg,resV,↓reduceIte,Nat.reduceEqDiff,reduceCtorEq,Nat.reduceAdd,Nat.reduceMul,Nat.reduceLeDiff,quietOp,blindOp,Int.reduceEq,Int.reduceLT,Int.reduceLE,Nat.reduceLT,ti2,ti3,ti4,ti79,ti80,ti28,ti25,ti31,ti22,ti33,ti24,ti67,ti111,ti145,ti136,ti137,ti117,ti100, true_and]
  refine (isNaN_c x H).to ?_
  try simp (disch := first | omega | (simp only [ints_length, List.length_replicate, List.length_set]; done) | (simp only [ints_length, List.length_replicate, List.length_set]; omega)) only [Sall,evalOp,init,binE,binI,unE,convE,okNil,builtE,gv,TD.isAgg,resV,↓reduceIte,Nat.reduceEqDiff,reduceCtorEq,Nat.reduceAdd,Nat.reduceMul,Nat.reduceLeDiff,quietOp,blindOp,Int.reduceEq,Int.reduceLT,Int.reduceLE,Nat.reduceLT,ti2,ti3,ti4,ti79,ti80,ti28,ti25,ti31,ti22,ti33,ti24,ti67,ti111,ti145,ti136,ti137,ti117,ti100, true_and]
  refine (isNaN_c y H).to ?_
  try simp (disch := first | omega | (simp only [ints_length, List.length_replicate, List.length_set]; done) | (simp only [ints_length, List.length_replicate, List.length_set]; omega)) only [Sall,evalOp,init,binE,binI,unE,convE,okNil,builtE,gv,TD.isAgg,resV,↓reduceIte,Nat.reduceEqDiff,reduceCtorEq,Nat.reduceAdd,Nat.reduceMul,Nat.reduceLeDiff,quietOp,blindOp,Int.reduceEq,Int.reduceLT,Int.reduceLE,Nat.reduceLT,ti2,ti3,ti4,ti79,ti80,ti28,ti25,ti31,ti22,ti33,ti24,ti67,ti111,ti145,ti136,ti137,ti117,ti100, true_and]
  unfold cmpI
  by_cases h1 : x < y
  · rw [if_pos h1]
    try simp (disch := first | omega | (simp only [ints_length, List.length_replicate, List.length_set]; done) | (simp only [ints_length, List.length_replicate, List.length_set]; omega)) only [Sall,evalOp,init,binE,binI,unE,convE,okNil,builtE,gv,TD.isAgg,resV,↓reduceIte,Nat.reduceEqDiff,reduceCtorEq,Nat.reduceAdd,Nat.reduceMul,Nat.reduceLeDiff,quietOp,blindOp,Int.reduceEq,Int.reduceLT,Int.reduceLE,Nat.reduceLT,ti2,ti3,ti4,ti79,ti80,ti28,ti25,ti31,ti22,ti33,ti24,ti67,ti111,ti145,ti136,ti137,ti117,ti100, h1, decide_true, is]
  · rw [if_neg h1]
    by_cases h2 : y < x
    · rw [if_pos h2]
      try simp (disch := first | omega | (simp only [ints_length, List.length_replicate, List.length_set]; done) | (simp only [ints_length, List.length_replicate, List.length_set]; omega)) only [Sall,evalOp,init,binE,binI,unE,convE,okNil,builtE,gv,TD.isAgg,resV,↓reduceIte,Nat.reduceEqDiff,reduceCtorEq,Nat.reduceAdd,Nat.reduceMul,Nat.reduceLeDiff,quietOp,blindOp,Int.reduceEq,Int.reduceLT,Int.reduceLE,Nat.reduceLT,ti2,ti3,ti4,ti79,ti80,ti28,ti25,ti31,ti22,ti33,ti24,ti67,ti111,ti145,ti136,ti137,ti117,ti100, h1, h2, decide_true, decide_false, is]
    · rw [if_neg h2]
      try simp (disch := first | omega | (simp only [ints_length, List.length_replicate, List.length_set]; done) | (simp only [ints_length, List.length_replicate, List.length_set]; omega)) only [Sall,evalOp,init,binE,binI,unE,convE,okNil,builtE,gv,TD.isAgg,resV,↓reduceIte,Nat.reduceEqDiff,reduceCtorEq,Nat.reduceAdd,Nat.reduceMul,Nat.reduceLeDiff,quietOp,blindOp,Int.reduceEq,Int.reduceLT,Int.reduceLE,Nat.reduceLT,ti2,ti3,ti4,ti79,ti80,ti28,ti25,ti31,ti22,ti33,ti24,ti67,ti111,ti145,ti136,ti137,ti117,ti100, h1, h2, decide_false, is]

theorem or3_c (v : Value) (x y z : Int) (H : AH) (hv : Rd 1 H v 3 [x, y, z]) : ACalls Try.prog 158 [v] H (is (.int .i64 (orI x y z)) H) := by
  refine acalls_of_awp [.tmp 2] Try.func158 (by kernel_rfl) rfl rfl (Nat.le_of_ble_eq_true rfl) (by kernel_rfl) ?_
  try simp (disch := first | omega | (simp only [ints_length, List.length_replicate, List.length_set]; done) | (simp only [ints_length, List.length_replicate, List.length_set]; omega)) only [Sall,evalOp,init,binE,binI,unE,convE,okNil,builtE,gv,TD.isAgg,resV,↓reduceIte,Nat.reduceEqDiff,reduceCtorEq,Nat.reduceAdd,Nat.reduceMul,Nat.reduceLeDiff,quietOp,blindOp,Int.reduceEq,Int.reduceLT,Int.reduceLE,Nat.reduceLT,ti2,ti3,ti4,ti79,ti80,ti28,ti25,ti31,ti22,ti33,ti24,ti67,ti111,ti145,ti136,ti137,ti117,ti100, builtE, hv.len]
  refine awp_loop (fun m t H' => ∃ a : Nat, m = 3 - a ∧ a ≤ 3 ∧ t 8 = .int .i64 a ∧ t 7 = .int .i64 (3 : Nat) ∧ t 6 = v ∧ t 3 = .int .i64 0 ∧ H' = H ∧ orI x y z = orI (if a ≤ 0 then x else 0) (if a ≤ 1 then y else 0) (if a ≤ 2 then z else 0)) 3 ?_ ?_
  · refine ⟨0, by omega, by omega, ?_⟩
    try simp (disch := first | omega | (simp only [ints_length, List.length_replicate, List.length_set]; done) | (simp only [ints_length, List.length_replicate, List.length_set]; omega)) only [Sall,evalOp,init,binE,binI,unE,convE,okNil,builtE,gv,TD.isAgg,resV,↓reduceIte,Nat.reduceEqDiff,reduceCtorEq,Nat.reduceAdd,Nat.reduceMul,Nat.reduceLeDiff,quietOp,blindOp,Int.reduceEq,Int.reduceLT,Int.reduceLE,Nat.reduceLT,ti2,ti3,ti4,ti79,ti80,ti28,ti25,ti31,ti22,ti33,ti24,ti67,ti111,ti145,ti136,ti137,ti117,ti100, Int.natCast_zero]
  · rintro m t H' ⟨a, hm, ha, h8, h7, h6, h3, rfl, hall⟩
    try simp (disch := first | omega | (simp only [ints_length, List.length_replicate, List.length_set]; done) | (simp only [ints_length, List.length_replicate, List.length_set]; omega)) only [Sall,evalOp,init,binE,binI,unE,convE,okNil,builtE,gv,TD.isAgg,resV,↓reduceIte,Nat.reduceEqDiff,reduceCtorEq,Nat.reduceAdd,Nat.reduceMul,Nat.reduceLeDiff,quietOp,blindOp,Int.reduceEq,Int.reduceLT,Int.reduceLE,Nat.reduceLT,ti2,ti3,ti4,ti79,ti80,ti28,ti25,ti31,ti22,ti33,ti24,ti67,ti111,ti145,ti136,ti137,ti117,ti100, h8, h7]
    refine condC_dec (fun h => ?_) (fun h => ?_)
    · obtain ⟨i, o, uu, cc, r, rfl, hr, _, hg, _⟩ := hv.get (by omega)
      have g1 := hg a (by omega)
      obtain ⟨w, hw⟩ : ∃ w, [x, y, z].getD a 0 = w := ⟨_, rfl⟩
      rw [hw] at g1
      have hcase : (w = 0 → orI x y z = orI (if a + 1 ≤ 0 then x else 0) (if a + 1 ≤ 1 then y else 0) (if a + 1 ≤ 2 then z else 0)) ∧ (w ≠ 0 → orI x y z = w) := by
        have : a = 0 ∨ a = 1 ∨ a = 2 := by omega
        rcases this with rfl | rfl | rfl
        · have e : x = w := hw
          subst e
          simp only [orI] at hall ⊢
          constructor
          · intro h; subst h; simp
          · intro h; simp [h]
        · have e : y = w := hw
          subst e
          simp only [orI] at hall ⊢
          constructor
          · intro h; subst h; simp at hall ⊢; exact hall
          · intro h; simp [h] at hall ⊢; exact hall
        · have e : z = w := hw
          subst e
          simp only [orI] at hall ⊢
          constructor
          · intro h; subst h; simp at hall ⊢; exact hall
          · intro h; simp [h] at hall ⊢; exact hall
      by_cases hw0 : w = 0
      · have e2 : (w != 0) = false := by rw [hw0]; rfl
        try simp (disch := first | omega | (simp only [ints_length, List.length_replicate, List.length_set]; done) | (simp only [ints_length, List.length_replicate, List.length_set]; omega)) only [Sall,evalOp,init,binE,binI,unE,convE,okNil,builtE,gv,TD.isAgg,resV,↓reduceIte,Nat.reduceEqDiff,reduceCtorEq,Nat.reduceAdd,Nat.reduceMul,Nat.reduceLeDiff,quietOp,blindOp,Int.reduceEq,Int.reduceLT,Int.reduceLE,Nat.reduceLT,ti2,ti3,ti4,ti79,ti80,ti28,ti25,ti31,ti22,ti33,ti24,ti67,ti111,ti145,ti136,ti137,ti117,ti100, h8, h7, h6, h3, hr, g1, e2, w64]
        (repeat refine And.intro (by omega) ?_)
        exact ⟨3 - (a + 1), by omega, a + 1, by omega, by omega, rfl, hcase.1 hw0⟩
      · have e2 : (w != 0) = true := bne_iff_ne.2 hw0
        try simp (disch := first | omega | (simp only [ints_length, List.length_replicate, List.length_set]; done) | (simp only [ints_length, List.length_replicate, List.length_set]; omega)) only [Sall,evalOp,init,binE,binI,unE,convE,okNil,builtE,gv,TD.isAgg,resV,↓reduceIte,Nat.reduceEqDiff,reduceCtorEq,Nat.reduceAdd,Nat.reduceMul,Nat.reduceLeDiff,quietOp,blindOp,Int.reduceEq,Int.reduceLT,Int.reduceLE,Nat.reduceLT,ti2,ti3,ti4,ti79,ti80,ti28,ti25,ti31,ti22,ti33,ti24,ti67,ti111,ti145,ti136,ti137,ti117,ti100, h8, h7, h6, h3, hr, g1, e2, w64]
        (repeat refine And.intro (by omega) ?_)
        rw [hcase.2 hw0]
        exact ⟨rfl, rfl⟩
    · try simp (disch := first | omega | (simp only [ints_length, List.length_replicate, List.length_set]; done) | (simp only [ints_length, List.length_replicate, List.length_set]; omega)) only [Sall,evalOp,init,binE,binI,unE,convE,okNil,builtE,gv,TD.isAgg,resV,↓reduceIte,Nat.reduceEqDiff,reduceCtorEq,Nat.reduceAdd,Nat.reduceMul,Nat.reduceLeDiff,quietOp,blindOp,Int.reduceEq,Int.reduceLT,Int.reduceLE,Nat.reduceLT,ti2,ti3,ti4,ti79,ti80,ti28,ti25,ti31,ti22,ti33,ti24,ti67,ti111,ti145,ti136,ti137,ti117,ti100, h3]
      have e : a = 3 := by omega
      subst e
      rw [hall]
      exact ⟨rfl, rfl⟩

/-- The comparison of the ranking; three cells hold the slices. -/
theorem rkClosure_c (p s t : List Int) (c0 c1 c2 : Nat) (v0 v1 v2 : Value) (a b : Nat) (H : AH) (h0 : H.row c0 = some ⟨28, true, [v0]⟩) (h1 : H.row c1 = some ⟨28, true, [v1]⟩) (h2 : H.row c2 = some ⟨28, true, [v2]⟩)
    (r0 : Rd 1 H v0 p.length p) (r1 : Rd 1 H v1 s.length s) (r2 : Rd 1 H v2 t.length t) (ha : a < p.length ∧ a < s.length ∧ a < t.length) (hb : b < p.length ∧ b < s.length ∧ b < t.length) :
    ACalls Try.prog 157 [.int .i64 a, .int .i64 b, .pointer (some ⟨c0, 0, none⟩), .pointer (some ⟨c1, 0, none⟩), .pointer (some ⟨c2, 0, none⟩)] H (fun r H' => r = .int .i64 (cmpR p s t a b) ∧ Up H.next H H') := by
  refine ACalls.wf (by kernel_rfl) fun hs => acalls_of_awp [.tmp 7] Try.func157 (by kernel_rfl) rfl rfl (Nat.le_of_ble_eq_true rfl) (by kernel_rfl) ?_
  obtain ⟨i0, o0, u0, k0, q0, rfl, f0, _, g0, _⟩ := r0.get (by omega)
  obtain ⟨i1, o1, u1, k1, q1, rfl, f1, _, g1, _⟩ := r1.get (by omega)
  obtain ⟨i2, o2, u2, k2, q2, rfl, f2, _, g2, _⟩ := r2.get (by omega)
  have g0a := g0 a (by omega)
  have g0b := g0 b (by omega)
  have g1a := g1 a (by omega)
  have g1b := g1 b (by omega)
  have g2a := g2 a (by omega)
  have g2b := g2 b (by omega)
  have zz : zeros 3 [.int .i64 0] = [.int .i64 0, .int .i64 0, .int .i64 0] := rfl
  unfold cmpR
  rw [Int.toNat_natCast, Int.toNat_natCast]
  try simp (disch := first | omega | (simp only [ints_length, List.length_replicate, List.length_set]; done) | (simp only [ints_length, List.length_replicate, List.length_set]; omega)) only [Sall,evalOp,init,binE,binI,unE,convE,okNil,builtE,gv,TD.isAgg,resV,↓reduceIte,Nat.reduceEqDiff,reduceCtorEq,Nat.reduceAdd,Nat.reduceMul,Nat.reduceLeDiff,quietOp,blindOp,Int.reduceEq,Int.reduceLT,Int.reduceLE,Nat.reduceLT,ti2,ti3,ti4,ti79,ti80,ti28,ti25,ti31,ti22,ti33,ti24,ti67,ti111,ti145,ti136,ti137,ti117,ti100, true_and]
  refine draw_in [0, 1, 2, 3, 4, 5, 6, 7, 9, 10, 11, 12, 13, 14, 15, 16, 18, 19, 20, 21, 22, 23, 24, 25, 8, 17, 26, 27, 28, 29] (by kernel_rfl) (by kernel_rfl) (by kernel_rfl) ?_
  try simp (disch := first | omega | (simp only [ints_length, List.length_replicate, List.length_set]; done) | (simp only [ints_length, List.length_replicate, List.length_set]; omega)) only [Sall,evalOp,init,binE,binI,unE,convE,okNil,builtE,gv,TD.isAgg,resV,↓reduceIte,Nat.reduceEqDiff,reduceCtorEq,Nat.reduceAdd,Nat.reduceMul,Nat.reduceLeDiff,quietOp,blindOp,Int.reduceEq,Int.reduceLT,Int.reduceLE,Nat.reduceLT,ti2,ti3,ti4,ti79,ti80,ti28,ti25,ti31,ti22,ti33,ti24,ti67,ti111,ti145,ti136,ti137,ti117,ti100, h0, h1, h2, f0, f1, f2, g0a, g0b, g1a, g1b, g2a, g2b]
  (repeat refine And.intro (by omega) ?_)
  refine (compare_c _ _ _).to ?_
  refine ⟨.inr (.inr (LE.refl _)), ?_⟩
  try simp (disch := first | omega | (simp only [ints_length, List.length_replicate, List.length_set]; done) | (simp only [ints_length, List.length_replicate, List.length_set]; omega)) only [Sall,evalOp,init,binE,binI,unE,convE,okNil,builtE,gv,TD.isAgg,resV,↓reduceIte,Nat.reduceEqDiff,reduceCtorEq,Nat.reduceAdd,Nat.reduceMul,Nat.reduceLeDiff,quietOp,blindOp,Int.reduceEq,Int.reduceLT,Int.reduceLE,Nat.reduceLT,ti2,ti3,ti4,ti79,ti80,ti28,ti25,ti31,ti22,ti33,ti24,ti67,ti111,ti145,ti136,ti137,ti117,ti100, true_and]
  refine (compare_c _ _ _).to ?_
  refine ⟨.inr (.inr (LE.refl _)), ?_⟩
  try simp (disch := first | omega | (simp only [ints_length, List.length_replicate, List.length_set]; done) | (simp only [ints_length, List.length_replicate, List.length_set]; omega)) only [Sall,evalOp,init,binE,binI,unE,convE,okNil,builtE,gv,TD.isAgg,resV,↓reduceIte,Nat.reduceEqDiff,reduceCtorEq,Nat.reduceAdd,Nat.reduceMul,Nat.reduceLeDiff,quietOp,blindOp,Int.reduceEq,Int.reduceLT,Int.reduceLE,Nat.reduceLT,ti2,ti3,ti4,ti79,ti80,ti28,ti25,ti31,ti22,ti33,ti24,ti67,ti111,ti145,ti136,ti137,ti117,ti100, true_and]
  refine (compare_c _ _ _).to ?_
  refine ⟨.inr (.inr (LE.refl _)), ?_⟩
  try simp (disch := first | omega | (simp only [ints_length, List.length_replicate, List.length_set]; done) | (simp only [ints_length, List.length_replicate, List.length_set]; omega)) only [Sall,evalOp,init,binE,binI,unE,convE,okNil,builtE,gv,TD.isAgg,resV,↓reduceIte,Nat.reduceEqDiff,reduceCtorEq,Nat.reduceAdd,Nat.reduceMul,Nat.reduceLeDiff,quietOp,blindOp,Int.reduceEq,Int.reduceLT,Int.reduceLE,Nat.reduceLT,ti2,ti3,ti4,ti79,ti80,ti28,ti25,ti31,ti22,ti33,ti24,ti67,ti111,ti145,ti136,ti137,ti117,ti100, zz, slCells]
  have hsc : Sc H := hs
  refine ⟨.inr (.inr (hsc.le _)), ?_⟩
  try simp (disch := first | omega | (simp only [ints_length, List.length_replicate, List.length_set]; done) | (simp only [ints_length, List.length_replicate, List.length_set]; omega)) only [Sall,evalOp,init,binE,binI,unE,convE,okNil,builtE,gv,TD.isAgg,resV,↓reduceIte,Nat.reduceEqDiff,reduceCtorEq,Nat.reduceAdd,Nat.reduceMul,Nat.reduceLeDiff,quietOp,blindOp,Int.reduceEq,Int.reduceLT,Int.reduceLE,Nat.reduceLT,ti2,ti3,ti4,ti79,ti80,ti28,ti25,ti31,ti22,ti33,ti24,ti67,ti111,ti145,ti136,ti137,ti117,ti100, true_and]
  refine (or3_c _ _ _ _ _ ⟨rfl, .inr ⟨H.next, 0, _, _, _, rfl, by rw [AH.push_row, if_pos rfl], Nat.le_refl _, rfl⟩⟩).to ?_
  refine ⟨.inr (.inr (LE.refl _)), ?_⟩
  try simp (disch := first | omega | (simp only [ints_length, List.length_replicate, List.length_set]; done) | (simp only [ints_length, List.length_replicate, List.length_set]; omega)) only [Sall,evalOp,init,binE,binI,unE,convE,okNil,builtE,gv,TD.isAgg,resV,↓reduceIte,Nat.reduceEqDiff,reduceCtorEq,Nat.reduceAdd,Nat.reduceMul,Nat.reduceLeDiff,quietOp,blindOp,Int.reduceEq,Int.reduceLT,Int.reduceLE,Nat.reduceLT,ti2,ti3,ti4,ti79,ti80,ti28,ti25,ti31,ti22,ti33,ti24,ti67,ti111,ti145,ti136,ti137,ti117,ti100, true_and]
  exact (Up.refl _ H).push (Nat.le_refl _) _

/-- The data while the sort goes on: what is not the data is as before. -/
def Srt (di : Nat) (H0 H : AH) : Prop := H0.next ≤ H.next ∧ (∀ i, i < H0.next → ¬ i = di → H.row i = H0.row i) ∧ Sc H

theorem insSort_c (n : Nat) (hn : 1 ≤ n ∧ n ≤ 20) (g : FuncId) (cap : List Value) (c : Int → Int → Int) (di cc : Nat) (H0 : AH) (hdi : di < H0.next) (hd : H0.row di = some ⟨2, true, ints (seqL 0 n)⟩) (hc : ∀ a b, -1 ≤ c a b ∧ c a b ≤ 1)
    (hcmp : ∀ (a b : Nat) (H1 : AH), a < n → b < n → Srt di H0 H1 → ACalls Try.prog g (.int .i64 a :: .int .i64 b :: cap) H1 (fun r H2 => r = .int .i64 (c a b) ∧ Up H1.next H1 H2)) :
    ACalls Try.prog 195 [.slice (some ⟨di, 0, some 1⟩) n cc, .int .i64 0, .int .i64 n, .func (.func g) #[] cap.toArray] H0 (fun _ H' => Srt di H0 H' ∧ H'.row di = some ⟨2, true, ints (rankL (fun a b => decide (c a b < 0)) n)⟩) := by
  obtain ⟨G, eG⟩ : ∃ G, G = fun a b => decide (c a b < 0) := ⟨_, rfl⟩
  rw [← eG]
  refine ACalls.wf (by kernel_rfl) fun hs => acalls_of_awp [] Try.func195 (by kernel_rfl) rfl rfl (Nat.le_of_ble_eq_true rfl) (by kernel_rfl) ?_
  try simp (disch := first | omega | (simp only [ints_length, List.length_replicate, List.length_set]; done) | (simp only [ints_length, List.length_replicate, List.length_set]; omega)) only [Sall,evalOp,init,binE,binI,unE,convE,okNil,builtE,gv,TD.isAgg,resV,↓reduceIte,Nat.reduceEqDiff,reduceCtorEq,Nat.reduceAdd,Nat.reduceMul,Nat.reduceLeDiff,quietOp,blindOp,Int.reduceEq,Int.reduceLT,Int.reduceLE,Nat.reduceLT,ti2,ti3,ti4,ti79,ti80,ti28,ti25,ti31,ti22,ti33,ti24,ti67,ti111,ti145,ti136,ti137,ti117,ti100, w64]
  refine awp_loop (fun m t H' => ∃ i : Nat, m = n - i ∧ 1 ≤ i ∧ i ≤ n ∧ t 8 = .int .i64 i ∧ t 0 = .slice (some ⟨di, 0, some 1⟩) n cc ∧ t 1 = .int .i64 0 ∧ t 2 = .int .i64 n ∧ t 3 = .func (.func g) #[] cap.toArray ∧ Srt di H0 H' ∧ H'.row di = some ⟨2, true, ints (rankL G i ++ seqL i (n - i))⟩) (n - 1) ?_ ?_
  · refine ⟨1, by omega, by omega, by omega, ?_⟩
    have := rank_first G n (by omega)
    rw [this] at hd
    have hS0 : Srt di H0 H0 := ⟨Nat.le_refl _, fun _ _ _ => rfl, hs⟩
    try simp (disch := first | omega | (simp only [ints_length, List.length_replicate, List.length_set]; done) | (simp only [ints_length, List.length_replicate, List.length_set]; omega)) only [Sall,evalOp,init,binE,binI,unE,convE,okNil,builtE,gv,TD.isAgg,resV,↓reduceIte,Nat.reduceEqDiff,reduceCtorEq,Nat.reduceAdd,Nat.reduceMul,Nat.reduceLeDiff,quietOp,blindOp,Int.reduceEq,Int.reduceLT,Int.reduceLE,Nat.reduceLT,ti2,ti3,ti4,ti79,ti80,ti28,ti25,ti31,ti22,ti33,ti24,ti67,ti111,ti145,ti136,ti137,ti117,ti100, true_and]
    exact ⟨by omega, hS0, hd⟩
  · rintro m t H' ⟨i, hm, hi1, hin, h8, h0, h1, h2, h3, hS, hd'⟩
    try simp (disch := first | omega | (simp only [ints_length, List.length_replicate, List.length_set]; done) | (simp only [ints_length, List.length_replicate, List.length_set]; omega)) only [Sall,evalOp,init,binE,binI,unE,convE,okNil,builtE,gv,TD.isAgg,resV,↓reduceIte,Nat.reduceEqDiff,reduceCtorEq,Nat.reduceAdd,Nat.reduceMul,Nat.reduceLeDiff,quietOp,blindOp,Int.reduceEq,Int.reduceLT,Int.reduceLE,Nat.reduceLT,ti2,ti3,ti4,ti79,ti80,ti28,ti25,ti31,ti22,ti33,ti24,ti67,ti111,ti145,ti136,ti137,ti117,ti100, h8, h2]
    refine condC_dec (fun h => ?_) (fun h => ?_)
    · have hlt : i < n := by omega
      have hl := rankL_length G i
      rw [rank_next G i n hlt] at hd'
      try simp (disch := first | omega | (simp only [ints_length, List.length_replicate, List.length_set]; done) | (simp only [ints_length, List.length_replicate, List.length_set]; omega)) only [Sall,evalOp,init,binE,binI,unE,convE,okNil,builtE,gv,TD.isAgg,resV,↓reduceIte,Nat.reduceEqDiff,reduceCtorEq,Nat.reduceAdd,Nat.reduceMul,Nat.reduceLeDiff,quietOp,blindOp,Int.reduceEq,Int.reduceLT,Int.reduceLE,Nat.reduceLT,ti2,ti3,ti4,ti79,ti80,ti28,ti25,ti31,ti22,ti33,ti24,ti67,ti111,ti145,ti136,ti137,ti117,ti100, h8, h0, h1, h2, h3]
      refine awp_loop (fun z t H4 => ∃ j : Nat, z = j ∧ j ≤ i ∧ bubAt G (rankL G i) i i = bubAt G (rankL G i) i j ∧ t 9 = .int .i64 j ∧ t 8 = .int .i64 i ∧ t 0 = .slice (some ⟨di, 0, some 1⟩) n cc ∧ t 1 = .int .i64 0 ∧ t 2 = .int .i64 n ∧ t 3 = .func (.func g) #[] cap.toArray ∧ Srt di H0 H4 ∧ H4.row di = some ⟨2, true, ints (insAt (rankL G i) j i ++ seqL ((i + 1 : Nat) : Int) (n - (i + 1)))⟩) i ?_ ?_
      · refine ⟨i, rfl, Nat.le_refl _, rfl, ?_⟩
        try simp (disch := first | omega | (simp only [ints_length, List.length_replicate, List.length_set]; done) | (simp only [ints_length, List.length_replicate, List.length_set]; omega)) only [Sall,evalOp,init,binE,binI,unE,convE,okNil,builtE,gv,TD.isAgg,resV,↓reduceIte,Nat.reduceEqDiff,reduceCtorEq,Nat.reduceAdd,Nat.reduceMul,Nat.reduceLeDiff,quietOp,blindOp,Int.reduceEq,Int.reduceLT,Int.reduceLE,Nat.reduceLT,ti2,ti3,ti4,ti79,ti80,ti28,ti25,ti31,ti22,ti33,ti24,ti67,ti111,ti145,ti136,ti137,ti117,ti100, h8, h0, h1, h2, h3]
        exact ⟨hS, hd'⟩
      · rintro z t H4 ⟨j, hz, hji, hbub, h9, h8, h0, h1, h2, h3, hS4, hd4⟩
        have hil : (insAt (rankL G i) j i).length = i + 1 := by rw [insAt_length (by omega), hl]
        have hsl : (seqL ((i + 1 : Nat) : Int) (n - (i + 1))).length = n - (i + 1) := seqL_length _ _
        have hal : (insAt (rankL G i) j i ++ seqL ((i + 1 : Nat) : Int) (n - (i + 1))).length = n := by rw [List.length_append]; omega
        refine draw_id (by kernel_rfl) (by kernel_rfl) ?_
        by_cases hj : j = 0
        · subst hj
          have h00 : ¬ (0 : Int) < ((0 : Nat) : Int) := by omega
          try simp (disch := first | omega | (simp only [ints_length, List.length_replicate, List.length_set]; done) | (simp only [ints_length, List.length_replicate, List.length_set]; omega)) only [Sall,evalOp,init,binE,binI,unE,convE,okNil,builtE,gv,TD.isAgg,resV,↓reduceIte,Nat.reduceEqDiff,reduceCtorEq,Nat.reduceAdd,Nat.reduceMul,Nat.reduceLeDiff,quietOp,blindOp,Int.reduceEq,Int.reduceLT,Int.reduceLE,Nat.reduceLT,ti2,ti3,ti4,ti79,ti80,ti28,ti25,ti31,ti22,ti33,ti24,ti67,ti111,ti145,ti136,ti137,ti117,ti100, h9, h1, h00, decide_false, h8, w64]
          refine ⟨n - (i + 1), by omega, i + 1, rfl, by omega, by omega, by omega, h0, h2, h3, hS4, ?_⟩
          rw [rankL_succ, hbub, bubAt_zero]
          exact hd4
        · have hj1 : (0 : Int) < (j : Int) := by omega
          have ga := insAt_at (show j ≤ (rankL G i).length by omega) (i : Int)
          have gb := insAt_get (show j - 1 < j by omega) (show j ≤ (rankL G i).length by omega) (i : Int)
          have gr := rankL_get G i (j - 1) (by omega)
          have gset := insAt_set (show j ≤ (rankL G i).length by omega) ((rankL G i).getD (j - 1) 0) (i : Int)
          have gstep := insAt_step (l := rankL G i) (j := j - 1) (by omega)
          have gset2 := insAt_set (show j - 1 ≤ (rankL G i).length by omega) (i : Int) ((rankL G i).getD (j - 1) 0)
          have gby := bubAt_yes (g := G) (l := rankL G i) (x := (i : Int)) (j := j - 1)
          have gbn := bubAt_no (g := G) (l := rankL G i) (x := (i : Int)) (j := j - 1)
          rw [show j - 1 + 1 = j by omega] at gstep gby gbn
          have e1 : (ints (insAt (rankL G i) j i ++ seqL ((i + 1 : Nat) : Int) (n - (i + 1))))[j]? = some (.int .i64 i) := by
            rw [ints_get? _ _ (by omega), List.getD_eq_getElem?_getD, List.getElem?_append_left (by omega), ← List.getD_eq_getElem?_getD, ga]
          have e2 : (ints (insAt (rankL G i) j i ++ seqL ((i + 1 : Nat) : Int) (n - (i + 1))))[j - 1]? = some (.int .i64 ((rankL G i).getD (j - 1) 0)) := by
            rw [ints_get? _ _ (by omega), List.getD_eq_getElem?_getD, List.getElem?_append_left (by omega), ← List.getD_eq_getElem?_getD, gb]
          have es : ∀ y x : Int, insAt (rankL G i) j y = insAt (rankL G i) (j - 1) y → True := fun _ _ _ => trivial
          revert gr gset gstep gset2 gby gbn e2
          generalize (rankL G i).getD (j - 1) 0 = bI
          intro gr gset gstep gset2 gby gbn e2
          obtain ⟨bN, rfl⟩ : ∃ bN : Nat, bI = bN := ⟨bI.toNat, by omega⟩
          have hjm : ((j : Int) - 1).toNat = j - 1 := by omega
          try simp (disch := first | omega | (simp only [ints_length, List.length_replicate, List.length_set]; done) | (simp only [ints_length, List.length_replicate, List.length_set]; omega)) only [Sall,evalOp,init,binE,binI,unE,convE,okNil,builtE,gv,TD.isAgg,resV,↓reduceIte,Nat.reduceEqDiff,reduceCtorEq,Nat.reduceAdd,Nat.reduceMul,Nat.reduceLeDiff,quietOp,blindOp,Int.reduceEq,Int.reduceLT,Int.reduceLE,Nat.reduceLT,ti2,ti3,ti4,ti79,ti80,ti28,ti25,ti31,ti22,ti33,ti24,ti67,ti111,ti145,ti136,ti137,ti117,ti100, h9, h1, hj1, decide_true, h3, h0, hd4, e1, e2, hjm, w64]
          (repeat refine And.intro (by omega) ?_)
          refine (hcmp i bN H4 (by omega) (by omega) hS4).scf.fin ?_
          rintro H5 ⟨up5, sc5⟩
          have n5 := up5.next
          refine ⟨.inr (.inr (up5.le hS4.2.2)), ?_⟩
          have hd5 : H5.row di = some ⟨2, true, ints (insAt (rankL G i) j i ++ seqL ((i + 1 : Nat) : Int) (n - (i + 1)))⟩ := by
            rw [up5.row _ (by have := hS4.1; omega)]; exact hd4
          have hS5 : Srt di H0 H5 := ⟨by have := hS4.1; omega, fun i hi hne => by rw [up5.row i (by have := hS4.1; omega), hS4.2.1 i hi hne], sc5⟩
          have eg : G i bN = decide (c i bN < 0) := by rw [eG]
          by_cases hg : c i bN < 0
          · rw [decide_eq_true hg] at eg
            try simp (disch := first | omega | (simp only [ints_length, List.length_replicate, List.length_set]; done) | (simp only [ints_length, List.length_replicate, List.length_set]; omega)) only [Sall,evalOp,init,binE,binI,unE,convE,okNil,builtE,gv,TD.isAgg,resV,↓reduceIte,Nat.reduceEqDiff,reduceCtorEq,Nat.reduceAdd,Nat.reduceMul,Nat.reduceLeDiff,quietOp,blindOp,Int.reduceEq,Int.reduceLT,Int.reduceLE,Nat.reduceLT,ti2,ti3,ti4,ti79,ti80,ti28,ti25,ti31,ti22,ti33,ti24,ti67,ti111,ti145,ti136,ti137,ti117,ti100, hg, decide_true, h9, h8, h0, h1, h2, h3]
            refine draw_id (by kernel_rfl) (by kernel_rfl) ?_
            try simp (disch := first | omega | (simp only [ints_length, List.length_replicate, List.length_set]; done) | (simp only [ints_length, List.length_replicate, List.length_set]; omega)) only [Sall,evalOp,init,binE,binI,unE,convE,okNil,builtE,gv,TD.isAgg,resV,↓reduceIte,Nat.reduceEqDiff,reduceCtorEq,Nat.reduceAdd,Nat.reduceMul,Nat.reduceLeDiff,quietOp,blindOp,Int.reduceEq,Int.reduceLT,Int.reduceLE,Nat.reduceLT,ti2,ti3,ti4,ti79,ti80,ti28,ti25,ti31,ti22,ti33,ti24,ti67,ti111,ti145,ti136,ti137,ti117,ti100, h9, h8, h0, h1, h2, h3, hd5, e1, e2, hjm, w64]
            (repeat refine And.intro (by omega) ?_)
            refine ⟨.inr (.inl (by kernel_rfl)), ?_⟩
            try simp (disch := first | omega | (simp only [ints_length, List.length_replicate, List.length_set]; done) | (simp only [ints_length, List.length_replicate, List.length_set]; omega)) only [Sall,evalOp,init,binE,binI,unE,convE,okNil,builtE,gv,TD.isAgg,resV,↓reduceIte,Nat.reduceEqDiff,reduceCtorEq,Nat.reduceAdd,Nat.reduceMul,Nat.reduceLeDiff,quietOp,blindOp,Int.reduceEq,Int.reduceLT,Int.reduceLE,Nat.reduceLT,ti2,ti3,ti4,ti79,ti80,ti28,ti25,ti31,ti22,ti33,ti24,ti67,ti111,ti145,ti136,ti137,ti117,ti100, h9, h8, h0, h1, h2, h3, hd5, e1, e2, hjm, w64]
            (repeat refine And.intro (by omega) ?_)
            refine ⟨by rw [List.length_set, ints_length]; omega, .inr (.inl (by kernel_rfl)), ?_⟩
            try simp (disch := first | omega | (simp only [ints_length, List.length_replicate, List.length_set]; done) | (simp only [ints_length, List.length_replicate, List.length_set]; omega)) only [Sall,evalOp,init,binE,binI,unE,convE,okNil,builtE,gv,TD.isAgg,resV,↓reduceIte,Nat.reduceEqDiff,reduceCtorEq,Nat.reduceAdd,Nat.reduceMul,Nat.reduceLeDiff,quietOp,blindOp,Int.reduceEq,Int.reduceLT,Int.reduceLE,Nat.reduceLT,ti2,ti3,ti4,ti79,ti80,ti28,ti25,ti31,ti22,ti33,ti24,ti67,ti111,ti145,ti136,ti137,ti117,ti100, h9, h8, h0, h1, h2, h3, w64]
            have hset : ((ints (insAt (rankL G i) j i ++ seqL ((i + 1 : Nat) : Int) (n - (i + 1)))).set j (Value.int IntKind.i64 bN)).set (j - 1) (Value.int IntKind.i64 i) = ints (insAt (rankL G i) (j - 1) i ++ seqL ((i + 1 : Nat) : Int) (n - (i + 1))) := by
              rw [ints_set, List.set_append_left _ _ (by omega), ints_set, List.set_append_left _ _ (by rw [List.length_set]; omega), gset, gstep, gset2]
            refine ⟨j - 1, by omega, by omega, by rw [hbub, gby eg], by omega, ?_, ?_⟩
            · exact ⟨by have := hS5.1; simp only [AH.setCells_next]; omega, fun i hi hne => by rw [AH.setCells_row, if_neg hne, AH.setCells_row, if_neg hne, hS5.2.1 i hi hne], (sc5.set _ _).set _ _⟩
            · rw [hset]
          · rw [decide_eq_false hg] at eg
            try simp (disch := first | omega | (simp only [ints_length, List.length_replicate, List.length_set]; done) | (simp only [ints_length, List.length_replicate, List.length_set]; omega)) only [Sall,evalOp,init,binE,binI,unE,convE,okNil,builtE,gv,TD.isAgg,resV,↓reduceIte,Nat.reduceEqDiff,reduceCtorEq,Nat.reduceAdd,Nat.reduceMul,Nat.reduceLeDiff,quietOp,blindOp,Int.reduceEq,Int.reduceLT,Int.reduceLE,Nat.reduceLT,ti2,ti3,ti4,ti79,ti80,ti28,ti25,ti31,ti22,ti33,ti24,ti67,ti111,ti145,ti136,ti137,ti117,ti100, hg, decide_false, h8, h0, h1, h2, h3, w64]
            refine ⟨n - (i + 1), by omega, i + 1, rfl, by omega, by omega, by omega, hS5, ?_⟩
            rw [rankL_succ, hbub, gbn eg]
            exact hd5
    · have e : i = n := by omega
      subst e
      try simp (disch := first | omega | (simp only [ints_length, List.length_replicate, List.length_set]; done) | (simp only [ints_length, List.length_replicate, List.length_set]; omega)) only [Sall,evalOp,init,binE,binI,unE,convE,okNil,builtE,gv,TD.isAgg,resV,↓reduceIte,Nat.reduceEqDiff,reduceCtorEq,Nat.reduceAdd,Nat.reduceMul,Nat.reduceLeDiff,quietOp,blindOp,Int.reduceEq,Int.reduceLT,Int.reduceLE,Nat.reduceLT,ti2,ti3,ti4,ti79,ti80,ti28,ti25,ti31,ti22,ti33,ti24,ti67,ti111,ti145,ti136,ti137,ti117,ti100, true_and]
      rw [Nat.sub_self, show seqL (i : Int) 0 = [] from rfl, List.append_nil] at hd'
      exact ⟨hS, hd'⟩

theorem stableCmp_c (n : Nat) (hn : 1 ≤ n ∧ n ≤ 19) (g : FuncId) (cap : List Value) (c : Int → Int → Int) (di cc : Nat) (H0 : AH) (hdi : di < H0.next) (hd : H0.row di = some ⟨2, true, ints (seqL 0 n)⟩) (hc : ∀ a b, -1 ≤ c a b ∧ c a b ≤ 1)
    (hcmp : ∀ (a b : Nat) (H1 : AH), a < n → b < n → Srt di H0 H1 → ACalls Try.prog g (.int .i64 a :: .int .i64 b :: cap) H1 (fun r H2 => r = .int .i64 (c a b) ∧ Up H1.next H1 H2)) :
    ACalls Try.prog 181 [.slice (some ⟨di, 0, some 1⟩) n cc, .int .i64 n, .func (.func g) #[] cap.toArray] H0 (fun _ H' => Srt di H0 H' ∧ H'.row di = some ⟨2, true, ints (rankL (fun a b => decide (c a b < 0)) n)⟩) := by
  refine acalls_of_awp [] Try.func181 (by kernel_rfl) rfl rfl (Nat.le_of_ble_eq_true rfl) (by kernel_rfl) ?_
  try simp (disch := first | omega | (simp only [ints_length, List.length_replicate, List.length_set]; done) | (simp only [ints_length, List.length_replicate, List.length_set]; omega)) only [Sall,evalOp,init,binE,binI,unE,convE,okNil,builtE,gv,TD.isAgg,resV,↓reduceIte,Nat.reduceEqDiff,reduceCtorEq,Nat.reduceAdd,Nat.reduceMul,Nat.reduceLeDiff,quietOp,blindOp,Int.reduceEq,Int.reduceLT,Int.reduceLE,Nat.reduceLT,ti2,ti3,ti4,ti79,ti80,ti28,ti25,ti31,ti22,ti33,ti24,ti67,ti111,ti145,ti136,ti137,ti117,ti100, true_and]
  refine awp_loop (fun m t H' => m = 0 ∧ t 8 = .int .i64 20 ∧ t 7 = .int .i64 0 ∧ t 6 = .int .i64 20 ∧ t 1 = .int .i64 n ∧ t 0 = .slice (some ⟨di, 0, some 1⟩) n cc ∧ t 2 = .func (.func g) #[] cap.toArray ∧ H' = H0) 0 ?_ ?_
  · try simp (disch := first | omega | (simp only [ints_length, List.length_replicate, List.length_set]; done) | (simp only [ints_length, List.length_replicate, List.length_set]; omega)) only [Sall,evalOp,init,binE,binI,unE,convE,okNil,builtE,gv,TD.isAgg,resV,↓reduceIte,Nat.reduceEqDiff,reduceCtorEq,Nat.reduceAdd,Nat.reduceMul,Nat.reduceLeDiff,quietOp,blindOp,Int.reduceEq,Int.reduceLT,Int.reduceLE,Nat.reduceLT,ti2,ti3,ti4,ti79,ti80,ti28,ti25,ti31,ti22,ti33,ti24,ti67,ti111,ti145,ti136,ti137,ti117,ti100, true_and]
  · rintro m t H' ⟨hm, h8, h7, h6, h1, h0, h2, rfl⟩
    have e1 : ¬ (20 : Int) ≤ (n : Int) := by omega
    try simp (disch := first | omega | (simp only [ints_length, List.length_replicate, List.length_set]; done) | (simp only [ints_length, List.length_replicate, List.length_set]; omega)) only [Sall,evalOp,init,binE,binI,unE,convE,okNil,builtE,gv,TD.isAgg,resV,↓reduceIte,Nat.reduceEqDiff,reduceCtorEq,Nat.reduceAdd,Nat.reduceMul,Nat.reduceLeDiff,quietOp,blindOp,Int.reduceEq,Int.reduceLT,Int.reduceLE,Nat.reduceLT,ti2,ti3,ti4,ti79,ti80,ti28,ti25,ti31,ti22,ti33,ti24,ti67,ti111,ti145,ti136,ti137,ti117,ti100, h8, h1, e1, decide_false, h0, h7, h2]
    refine (insSort_c n (by omega) g cap c di cc H' hdi hd hc hcmp).mono ?_
    rintro r H2 ⟨hS, hd2⟩
    refine Holds.mp ?_
    have e2 : ¬ (20 : Int) < (n : Int) := by omega
    try simp (disch := first | omega | (simp only [ints_length, List.length_replicate, List.length_set]; done) | (simp only [ints_length, List.length_replicate, List.length_set]; omega)) only [Sall,evalOp,init,binE,binI,unE,convE,okNil,builtE,gv,TD.isAgg,resV,↓reduceIte,Nat.reduceEqDiff,reduceCtorEq,Nat.reduceAdd,Nat.reduceMul,Nat.reduceLeDiff,quietOp,blindOp,Int.reduceEq,Int.reduceLT,Int.reduceLE,Nat.reduceLT,ti2,ti3,ti4,ti79,ti80,ti28,ti25,ti31,ti22,ti33,ti24,ti67,ti111,ti145,ti136,ti137,ti117,ti100, h6, h1]
    refine awp_loop (fun m t H' => m = 0 ∧ t 6 = .int .i64 20 ∧ t 1 = .int .i64 n ∧ H' = H2) 0 ?_ ?_
    · try simp (disch := first | omega | (simp only [ints_length, List.length_replicate, List.length_set]; done) | (simp only [ints_length, List.length_replicate, List.length_set]; omega)) only [Sall,evalOp,init,binE,binI,unE,convE,okNil,builtE,gv,TD.isAgg,resV,↓reduceIte,Nat.reduceEqDiff,reduceCtorEq,Nat.reduceAdd,Nat.reduceMul,Nat.reduceLeDiff,quietOp,blindOp,Int.reduceEq,Int.reduceLT,Int.reduceLE,Nat.reduceLT,ti2,ti3,ti4,ti79,ti80,ti28,ti25,ti31,ti22,ti33,ti24,ti67,ti111,ti145,ti136,ti137,ti117,ti100, h6, h1]
    · rintro m t H' ⟨hm, h6, h1, rfl⟩
      try simp (disch := first | omega | (simp only [ints_length, List.length_replicate, List.length_set]; done) | (simp only [ints_length, List.length_replicate, List.length_set]; omega)) only [Sall,evalOp,init,binE,binI,unE,convE,okNil,builtE,gv,TD.isAgg,resV,↓reduceIte,Nat.reduceEqDiff,reduceCtorEq,Nat.reduceAdd,Nat.reduceMul,Nat.reduceLeDiff,quietOp,blindOp,Int.reduceEq,Int.reduceLT,Int.reduceLE,Nat.reduceLT,ti2,ti3,ti4,ti79,ti80,ti28,ti25,ti31,ti22,ti33,ti24,ti67,ti111,ti145,ti136,ti137,ti117,ti100, h6, h1, e2, decide_false]
      exact ⟨hS, hd2⟩

theorem sortStable_c (n : Nat) (hn : 1 ≤ n ∧ n ≤ 19) (g : FuncId) (cap : List Value) (c : Int → Int → Int) (di cc : Nat) (H0 : AH) (hdi : di < H0.next) (hd : H0.row di = some ⟨2, true, ints (seqL 0 n)⟩) (hc : ∀ a b, -1 ≤ c a b ∧ c a b ≤ 1)
    (hcmp : ∀ (a b : Nat) (H1 : AH), a < n → b < n → Srt di H0 H1 → ACalls Try.prog g (.int .i64 a :: .int .i64 b :: cap) H1 (fun r H2 => r = .int .i64 (c a b) ∧ Up H1.next H1 H2)) :
    ACalls Try.prog 156 [.slice (some ⟨di, 0, some 1⟩) n cc, .func (.func g) #[] cap.toArray] H0 (fun _ H' => Srt di H0 H' ∧ H'.row di = some ⟨2, true, ints (rankL (fun a b => decide (c a b < 0)) n)⟩) := by
  refine acalls_of_awp [] Try.func156 (by kernel_rfl) rfl rfl (Nat.le_of_ble_eq_true rfl) (by kernel_rfl) ?_
  try simp (disch := first | omega | (simp only [ints_length, List.length_replicate, List.length_set]; done) | (simp only [ints_length, List.length_replicate, List.length_set]; omega)) only [Sall,evalOp,init,binE,binI,unE,convE,okNil,builtE,gv,TD.isAgg,resV,↓reduceIte,Nat.reduceEqDiff,reduceCtorEq,Nat.reduceAdd,Nat.reduceMul,Nat.reduceLeDiff,quietOp,blindOp,Int.reduceEq,Int.reduceLT,Int.reduceLE,Nat.reduceLT,ti2,ti3,ti4,ti79,ti80,ti28,ti25,ti31,ti22,ti33,ti24,ti67,ti111,ti145,ti136,ti137,ti117,ti100, builtE]
  refine (stableCmp_c n hn g cap c di cc H0 hdi hd hc hcmp).mono ?_
  rintro r H2 ⟨hS, hd2⟩
  refine Holds.mp ?_
  try simp (disch := first | omega | (simp only [ints_length, List.length_replicate, List.length_set]; done) | (simp only [ints_length, List.length_replicate, List.length_set]; omega)) only [Sall,evalOp,init,binE,binI,unE,convE,okNil,builtE,gv,TD.isAgg,resV,↓reduceIte,Nat.reduceEqDiff,reduceCtorEq,Nat.reduceAdd,Nat.reduceMul,Nat.reduceLeDiff,quietOp,blindOp,Int.reduceEq,Int.reduceLT,Int.reduceLE,Nat.reduceLT,ti2,ti3,ti4,ti79,ti80,ti28,ti25,ti31,ti22,ti33,ti24,ti67,ti111,ti145,ti136,ti137,ti117,ti100, true_and]
  exact ⟨hS, hd2⟩
end Go.Proofs.Ytbmpkihggipciaa.A
