/- Contracts: the digit round robin of an order, on both sides. -/
import Derived.Test.YtbmpkihggipciaaC21
import Derived.Test.YtbmpkihggipciaaC22
import Derived.Test.YtbmpkihggipciaaPl16
set_option linter.unusedSimpArgs false
set_option linter.unusedVariables false
set_option maxRecDepth 100000
set_option maxHeartbeats 2000000
--LEN ints_length, List.length_replicate, List.length_set
namespace Go.Proofs.Ytbmpkihggipciaa.A
open Go Go.Abs Go.RowKit

theorem equalI_c (v w : Value) (y z : List Int) (H : AH) (hv : Rd 1 H v y.length y) (hw : Rd 1 H w z.length z) (hy : y.length ≤ 4294967296) (hz : z.length ≤ 4294967296) :
    ACalls Try.prog 102 [v, w] H (is (.bool (decide (y = z))) H) := by
  refine acalls_of_awp [.tmp 4] Try.func102 (by kernel_rfl) rfl rfl (Nat.le_of_ble_eq_true rfl) (by kernel_rfl) ?_
  by_cases hl : y.length = z.length
  · have e1 : ((y.length : Int) != (z.length : Int)) = false := by rw [hl]; exact bne_self_eq_false _
    try simp (disch := first | omega | (simp only [ints_length, List.length_replicate, List.length_set]; done) | (simp only [ints_length, List.length_replicate, List.length_set]; omega)) only [Sall,evalOp,init,binE,binI,unE,convE,okNil,builtE,gv,TD.isAgg,resV,↓reduceIte,Nat.reduceEqDiff,reduceCtorEq,Nat.reduceAdd,Nat.reduceMul,Nat.reduceLeDiff,quietOp,blindOp,Int.reduceEq,Int.reduceLT,Int.reduceLE,Nat.reduceLT,ti2,ti3,ti4,ti79,ti80,ti28,ti25,ti31,ti22,ti33,ti24,ti67,ti111,ti100, builtE, hv.len, hw.len, e1]
    refine awp_loop (fun m t H' => ∃ a : Nat, m = y.length - a ∧ a ≤ y.length ∧ t 13 = .int .i64 a ∧ t 12 = .int .i64 y.length ∧ t 0 = v ∧ t 1 = w ∧ H' = H ∧ (∀ i, i < a → y.getD i 0 = z.getD i 0)) y.length ?_ ?_
    · refine ⟨0, by omega, by omega, ?_⟩
      try simp (disch := first | omega | (simp only [ints_length, List.length_replicate, List.length_set]; done) | (simp only [ints_length, List.length_replicate, List.length_set]; omega)) only [Sall,evalOp,init,binE,binI,unE,convE,okNil,builtE,gv,TD.isAgg,resV,↓reduceIte,Nat.reduceEqDiff,reduceCtorEq,Nat.reduceAdd,Nat.reduceMul,Nat.reduceLeDiff,quietOp,blindOp,Int.reduceEq,Int.reduceLT,Int.reduceLE,Nat.reduceLT,ti2,ti3,ti4,ti79,ti80,ti28,ti25,ti31,ti22,ti33,ti24,ti67,ti111,ti100, Int.natCast_zero, Nat.not_lt_zero, false_implies]
    · rintro m t H' ⟨a, hm, han, h13, h12, h0, h1, rfl, hall⟩
      try simp (disch := first | omega | (simp only [ints_length, List.length_replicate, List.length_set]; done) | (simp only [ints_length, List.length_replicate, List.length_set]; omega)) only [Sall,evalOp,init,binE,binI,unE,convE,okNil,builtE,gv,TD.isAgg,resV,↓reduceIte,Nat.reduceEqDiff,reduceCtorEq,Nat.reduceAdd,Nat.reduceMul,Nat.reduceLeDiff,quietOp,blindOp,Int.reduceEq,Int.reduceLT,Int.reduceLE,Nat.reduceLT,ti2,ti3,ti4,ti79,ti80,ti28,ti25,ti31,ti22,ti33,ti24,ti67,ti111,ti100, h13, h12]
      refine condC_dec (fun h => ?_) (fun h => ?_)
      · obtain ⟨i, o, uu, cc, r, rfl, hr, _, hg, _⟩ := hv.get (by omega)
        obtain ⟨i2, o2, uu2, cc2, r2, rfl, hr2, _, hg2, _⟩ := hw.get (by omega)
        have g1 := hg a (by omega)
        have g2 := hg2 a (by omega)
        refine draw_id (by kernel_rfl) (by kernel_rfl) ?_
        by_cases hx : y.getD a 0 = z.getD a 0
        · have e2 : (y.getD a 0 != z.getD a 0) = false := by rw [hx]; exact bne_self_eq_false _
          try simp (disch := first | omega | (simp only [ints_length, List.length_replicate, List.length_set]; done) | (simp only [ints_length, List.length_replicate, List.length_set]; omega)) only [Sall,evalOp,init,binE,binI,unE,convE,okNil,builtE,gv,TD.isAgg,resV,↓reduceIte,Nat.reduceEqDiff,reduceCtorEq,Nat.reduceAdd,Nat.reduceMul,Nat.reduceLeDiff,quietOp,blindOp,Int.reduceEq,Int.reduceLT,Int.reduceLE,Nat.reduceLT,ti2,ti3,ti4,ti79,ti80,ti28,ti25,ti31,ti22,ti33,ti24,ti67,ti111,ti100, h13, h12, h0, h1, hr, g1, hr2, g2, e2, w64]
          (repeat refine And.intro (by omega) ?_)
          refine ⟨y.length - (a + 1), by omega, a + 1, rfl, by omega, rfl, fun i hi => ?_⟩
          by_cases e : i = a
          · rw [e]; exact hx
          · exact hall i (by omega)
        · have e2 : (y.getD a 0 != z.getD a 0) = true := bne_iff_ne.2 hx
          try simp (disch := first | omega | (simp only [ints_length, List.length_replicate, List.length_set]; done) | (simp only [ints_length, List.length_replicate, List.length_set]; omega)) only [Sall,evalOp,init,binE,binI,unE,convE,okNil,builtE,gv,TD.isAgg,resV,↓reduceIte,Nat.reduceEqDiff,reduceCtorEq,Nat.reduceAdd,Nat.reduceMul,Nat.reduceLeDiff,quietOp,blindOp,Int.reduceEq,Int.reduceLT,Int.reduceLE,Nat.reduceLT,ti2,ti3,ti4,ti79,ti80,ti28,ti25,ti31,ti22,ti33,ti24,ti67,ti111,ti100, h13, h12, h0, h1, hr, g1, hr2, g2, e2, w64]
          (repeat refine And.intro (by omega) ?_)
          rw [decide_eq_false fun e => hx (by rw [e])]
          exact ⟨rfl, rfl⟩
      · try simp (disch := first | omega | (simp only [ints_length, List.length_replicate, List.length_set]; done) | (simp only [ints_length, List.length_replicate, List.length_set]; omega)) only [Sall,evalOp,init,binE,binI,unE,convE,okNil,builtE,gv,TD.isAgg,resV,↓reduceIte,Nat.reduceEqDiff,reduceCtorEq,Nat.reduceAdd,Nat.reduceMul,Nat.reduceLeDiff,quietOp,blindOp,Int.reduceEq,Int.reduceLT,Int.reduceLE,Nat.reduceLT,ti2,ti3,ti4,ti79,ti80,ti28,ti25,ti31,ti22,ti33,ti24,ti67,ti111,ti100, h0, h1]
        have ha : a = y.length := by omega
        subst ha
        rw [decide_eq_true (List.ext_getElem? fun i => by
          by_cases hi : i < y.length
          · have h1 := hall i hi
            rw [List.getD_eq_getElem?_getD, List.getD_eq_getElem?_getD, List.getElem?_eq_getElem hi, List.getElem?_eq_getElem (by omega)] at h1
            rw [List.getElem?_eq_getElem hi, List.getElem?_eq_getElem (by omega)]
            exact congrArg some h1
          · rw [List.getElem?_eq_none (by omega), List.getElem?_eq_none (by omega)])]
        exact ⟨rfl, rfl⟩
  · have e1 : ((y.length : Int) != (z.length : Int)) = true := by rw [bne_iff_ne]; omega
    try simp (disch := first | omega | (simp only [ints_length, List.length_replicate, List.length_set]; done) | (simp only [ints_length, List.length_replicate, List.length_set]; omega)) only [Sall,evalOp,init,binE,binI,unE,convE,okNil,builtE,gv,TD.isAgg,resV,↓reduceIte,Nat.reduceEqDiff,reduceCtorEq,Nat.reduceAdd,Nat.reduceMul,Nat.reduceLeDiff,quietOp,blindOp,Int.reduceEq,Int.reduceLT,Int.reduceLE,Nat.reduceLT,ti2,ti3,ti4,ti79,ti80,ti28,ti25,ti31,ti22,ti33,ti24,ti67,ti111,ti100, builtE, hv.len, hw.len, e1]
    rw [decide_eq_false fun e => hl (by rw [e])]
    exact ⟨rfl, rfl⟩

theorem DigitRobin_c (q : Int) (v : Value) (m : Nat) (y : List Int) (H : AH) (hq : -9223372036854775808 ≤ q ∧ q ≤ 9223372036854775807) (hv : Rd 1 H v m y) (hm : m ≤ 4294967296) :
    ACalls Try.prog 47 [.int .i64 q, v] H (fun r H' => ∃ u, r = .tuple #[.agg #[.int .i64 (drQ q y), u], .int .i64 (drC q y)] ∧ Up H.next H H' ∧ Fr 14 80 H.next H'.next H' u (drK q y) (drL q y)) := by
  have hmy : y.length = m := by have := hv.1; omega
  subst hmy
  refine ACalls.wf (by kernel_rfl) fun hs => acalls_of_awp [.cell 4 33, .tmp 5] Try.func47 (by kernel_rfl) rfl rfl (Nat.le_of_ble_eq_true rfl) (by kernel_rfl) ?_
  obtain ⟨H1, e1⟩ : ∃ H1, H1 = H.push ⟨33, true, [.int .i64 0, .slice none 0 0]⟩ := ⟨_, rfl⟩
  have up1 : Up H.next H H1 := by rw [e1]; exact (Up.refl _ H).push (by omega) _
  have n1 : H1.next = H.next + 1 := by rw [e1]; rfl
  have r1 : H1.row H.next = some ⟨33, true, [.int .i64 0, .slice none 0 0]⟩ := by rw [e1, AH.push_row, if_pos rfl]
  try simp (disch := first | omega | (simp only [ints_length, List.length_replicate, List.length_set]; done) | (simp only [ints_length, List.length_replicate, List.length_set]; omega)) only [Sall,evalOp,init,binE,binI,unE,convE,okNil,builtE,gv,TD.isAgg,resV,↓reduceIte,Nat.reduceEqDiff,reduceCtorEq,Nat.reduceAdd,Nat.reduceMul,Nat.reduceLeDiff,quietOp,blindOp,Int.reduceEq,Int.reduceLT,Int.reduceLE,Nat.reduceLT,ti2,ti3,ti4,ti79,ti80,ti28,ti25,ti31,ti22,ti33,ti24,ti67,ti111,ti100, true_and]
  rw [← e1]
  clear e1
  refine (isDigit_c q _).to ?_
  have eq0 : decide (q = 2 ∨ q = 4 ∨ q = 8) = isDig q := rfl
  rw [eq0]
  unfold drQ drC drK drL digB
  cases hd : isDig q with
  | false =>
    try simp (disch := first | omega | (simp only [ints_length, List.length_replicate, List.length_set]; done) | (simp only [ints_length, List.length_replicate, List.length_set]; omega)) only [Sall,evalOp,init,binE,binI,unE,convE,okNil,builtE,gv,TD.isAgg,resV,↓reduceIte,Nat.reduceEqDiff,reduceCtorEq,Nat.reduceAdd,Nat.reduceMul,Nat.reduceLeDiff,quietOp,blindOp,Int.reduceEq,Int.reduceLT,Int.reduceLE,Nat.reduceLT,ti2,ti3,ti4,ti79,ti80,ti28,ti25,ti31,ti22,ti33,ti24,ti67,ti111,ti100, Bool.not_false, Bool.false_and, r1]
    exact ⟨_, rfl, up1.set (Nat.le_refl _) _, ⟨rfl, .inl ⟨rfl, rfl⟩⟩⟩
  | true =>
    obtain ⟨n, rfl, hn, hn2, hn8⟩ := isDig_cases hd
    have hv1 := hv.same (up1.le hs).row
    have hq1 : ((n : Int).toNat - 1) = n - 1 := by omega
    rw [Int.toNat_natCast]
    try simp (disch := first | omega | (simp only [ints_length, List.length_replicate, List.length_set]; done) | (simp only [ints_length, List.length_replicate, List.length_set]; omega)) only [Sall,evalOp,init,binE,binI,unE,convE,okNil,builtE,gv,TD.isAgg,resV,↓reduceIte,Nat.reduceEqDiff,reduceCtorEq,Nat.reduceAdd,Nat.reduceMul,Nat.reduceLeDiff,quietOp,blindOp,Int.reduceEq,Int.reduceLT,Int.reduceLE,Nat.reduceLT,ti2,ti3,ti4,ti79,ti80,ti28,ti25,ti31,ti22,ti33,ti24,ti67,ti111,ti100, Bool.not_true]
    refine (values_c v H1 hv1.one).to ?_
    try simp (disch := first | omega | (simp only [ints_length, List.length_replicate, List.length_set]; done) | (simp only [ints_length, List.length_replicate, List.length_set]; omega)) only [Sall,evalOp,init,binE,binI,unE,convE,okNil,builtE,gv,TD.isAgg,resV,↓reduceIte,Nat.reduceEqDiff,reduceCtorEq,Nat.reduceAdd,Nat.reduceMul,Nat.reduceLeDiff,quietOp,blindOp,Int.reduceEq,Int.reduceLT,Int.reduceLE,Nat.reduceLT,ti2,ti3,ti4,ti79,ti80,ti28,ti25,ti31,ti22,ti33,ti24,ti67,ti111,ti100, true_and]
    obtain ⟨H2, e2⟩ : ∃ H2, H2 = H1.push ⟨28, true, [v]⟩ := ⟨_, rfl⟩
    have up2 : Up H1.next H1 H2 := by rw [e2]; exact (Up.refl _ _).push (by omega) _
    have n2 : H2.next = H1.next + 1 := by rw [e2]; rfl
    have r2 : H2.row H1.next = some ⟨28, true, [v]⟩ := by rw [e2, AH.push_row, if_pos rfl]
    rw [← e2]
    clear e2
    have upp : Up H.next H H2 := up1.trans up2 (by omega)
    refine (sorted_c H1.next v y H2 r2 (hv.same (upp.le hs).row) hm).mono ?_
    rintro u H3 ⟨up3, hf3⟩
    have n3 := up3.next
    refine Holds.mp ?_
    try simp (disch := first | omega | (simp only [ints_length, List.length_replicate, List.length_set]; done) | (simp only [ints_length, List.length_replicate, List.length_set]; omega)) only [Sall,evalOp,init,binE,binI,unE,convE,okNil,builtE,gv,TD.isAgg,resV,↓reduceIte,Nat.reduceEqDiff,reduceCtorEq,Nat.reduceAdd,Nat.reduceMul,Nat.reduceLeDiff,quietOp,blindOp,Int.reduceEq,Int.reduceLT,Int.reduceLE,Nat.reduceLT,ti2,ti3,ti4,ti79,ti80,ti28,ti25,ti31,ti22,ti33,ti24,ti67,ti111,ti100, w64]
    refine (numbersFrom_c 1 ((n : Int) - 1) (n - 1) (by omega) (by omega) (by omega) H3).mono ?_
    rintro w H4 ⟨up4, hf4⟩
    have n4 := up4.next
    refine Holds.mp ?_
    try simp (disch := first | omega | (simp only [ints_length, List.length_replicate, List.length_set]; done) | (simp only [ints_length, List.length_replicate, List.length_set]; omega)) only [Sall,evalOp,init,binE,binI,unE,convE,okNil,builtE,gv,TD.isAgg,resV,↓reduceIte,Nat.reduceEqDiff,reduceCtorEq,Nat.reduceAdd,Nat.reduceMul,Nat.reduceLeDiff,quietOp,blindOp,Int.reduceEq,Int.reduceLT,Int.reduceLE,Nat.reduceLT,ti2,ti3,ti4,ti79,ti80,ti28,ti25,ti31,ti22,ti33,ti24,ti67,ti111,ti100, true_and]
    have hl3 := sortedL_length y
    have hl4 : (seqL 1 (n - 1)).length = n - 1 := seqL_length _ _
    have hr3 : Rd 1 H4 u (sortedL y).length (sortedL y) := by rw [hl3]; exact (hf3.same fun i _ hi => up4.row i hi).rd
    have hr4 : Rd 1 H4 w (seqL 1 (n - 1)).length (seqL 1 (n - 1)) := by rw [hl4]; exact hf4.rd
    refine (equalI_c u w (sortedL y) (seqL 1 (n - 1)) H4 hr3 hr4 (by omega) (by omega)).to ?_
    have upE : Up H.next H H4 := ⟨by omega, fun i hi => by rw [up4.row i (by omega), up3.row i (by omega), upp.row i hi]⟩
    have r4 : H4.row H.next = some ⟨33, true, [.int .i64 0, .slice none 0 0]⟩ := by rw [up4.row _ (by omega), up3.row _ (by omega), up2.row _ (by omega), r1]
    by_cases he : sortedL y = seqL 1 (n - 1)
    · rw [decide_eq_true he]
      try simp (disch := first | omega | (simp only [ints_length, List.length_replicate, List.length_set]; done) | (simp only [ints_length, List.length_replicate, List.length_set]; omega)) only [Sall,evalOp,init,binE,binI,unE,convE,okNil,builtE,gv,TD.isAgg,resV,↓reduceIte,Nat.reduceEqDiff,reduceCtorEq,Nat.reduceAdd,Nat.reduceMul,Nat.reduceLeDiff,quietOp,blindOp,Int.reduceEq,Int.reduceLT,Int.reduceLE,Nat.reduceLT,ti2,ti3,ti4,ti79,ti80,ti28,ti25,ti31,ti22,ti33,ti24,ti67,ti111,ti100, Bool.not_true, Bool.and_self, Bool.and_true]
      have hyn : y.length = n - 1 := by rw [← hl3, he, hl4]
      refine (digitRobin_c n v y H4 (by omega) (hv.same (upE.le hs).row) (by omega)).ex ?_
      rintro x H5 ⟨up5, hf5⟩
      have n5 := up5.next
      have r5 : H5.row H.next = some ⟨33, true, [.int .i64 0, .slice none 0 0]⟩ := by rw [up5.row _ (by omega), r4]
      have o5 := hf5.rd.one
      try simp (disch := first | omega | (simp only [ints_length, List.length_replicate, List.length_set]; done) | (simp only [ints_length, List.length_replicate, List.length_set]; omega)) only [Sall,evalOp,init,binE,binI,unE,convE,okNil,builtE,gv,TD.isAgg,resV,↓reduceIte,Nat.reduceEqDiff,reduceCtorEq,Nat.reduceAdd,Nat.reduceMul,Nat.reduceLeDiff,quietOp,blindOp,Int.reduceEq,Int.reduceLT,Int.reduceLE,Nat.reduceLT,ti2,ti3,ti4,ti79,ti80,ti28,ti25,ti31,ti22,ti33,ti24,ti67,ti111,ti100, r5, o5, if_true]
      refine ⟨_, rfl, (upE.trans up5 (by omega)).set (Nat.le_refl _) _, ?_⟩
      exact (hf5.same (H' := H5.setCells H.next [.int .i64 n, x]) fun i hi _ => by rw [AH.setCells_row, if_neg (by omega)]).wide (by omega) (Nat.le_refl _)
    · rw [decide_eq_false he]
      try simp (disch := first | omega | (simp only [ints_length, List.length_replicate, List.length_set]; done) | (simp only [ints_length, List.length_replicate, List.length_set]; omega)) only [Sall,evalOp,init,binE,binI,unE,convE,okNil,builtE,gv,TD.isAgg,resV,↓reduceIte,Nat.reduceEqDiff,reduceCtorEq,Nat.reduceAdd,Nat.reduceMul,Nat.reduceLeDiff,quietOp,blindOp,Int.reduceEq,Int.reduceLT,Int.reduceLE,Nat.reduceLT,ti2,ti3,ti4,ti79,ti80,ti28,ti25,ti31,ti22,ti33,ti24,ti67,ti111,ti100, Bool.not_false, Bool.and_false, r4]
      exact ⟨_, rfl, upE.set (Nat.le_refl _) _, ⟨rfl, .inl ⟨rfl, rfl⟩⟩⟩
theorem l09Digits_c (q : Int) (v : Value) (y : List Int) (H : AH) (hv : Rd 1 H v y.length y) (hm : y.length ≤ 4294967296) :
    ACalls Try.prog 99 [.int .i64 q, v] H (is (.bool (digB q y)) H) := by
  refine acalls_up rfl (ACalls.wf (by kernel_rfl) fun hs => acalls_of_awp [.tmp 4] Try.func99 (by kernel_rfl) rfl rfl (Nat.le_of_ble_eq_true rfl) (by kernel_rfl) ?_)
  unfold digB
  cases hd : isDig q with
  | false =>
    have h := of_decide_eq_false hd
    have e2 : (q != 2) = true := by rw [bne_iff_ne]; omega
    have e4 : (q != 4) = true := by rw [bne_iff_ne]; omega
    have e8 : (q != 8) = true := by rw [bne_iff_ne]; omega
    try simp (disch := first | omega | (simp only [ints_length, List.length_replicate, List.length_set]; done) | (simp only [ints_length, List.length_replicate, List.length_set]; omega)) only [Sall,evalOp,init,binE,binI,unE,convE,okNil,builtE,gv,TD.isAgg,resV,↓reduceIte,Nat.reduceEqDiff,reduceCtorEq,Nat.reduceAdd,Nat.reduceMul,Nat.reduceLeDiff,quietOp,blindOp,Int.reduceEq,Int.reduceLT,Int.reduceLE,Nat.reduceLT,ti2,ti3,ti4,ti79,ti80,ti28,ti25,ti31,ti22,ti33,ti24,ti67,ti111,ti100, e2, e4, e8, Bool.false_and]
    exact Up.refl _ _
  | true =>
    obtain ⟨n, rfl, hn, hn2, hn8⟩ := isDig_cases hd
    have hneq : (((n : Int) != 2) = false ∧ ((n : Int) != 4) = true ∧ ((n : Int) != 8) = true) ∨ (((n : Int) != 2) = true ∧ ((n : Int) != 4) = false ∧ ((n : Int) != 8) = true) ∨ (((n : Int) != 2) = true ∧ ((n : Int) != 4) = true ∧ ((n : Int) != 8) = false) := by
      simp only [List.mem_cons, List.not_mem_nil, or_false] at hn
      rcases hn with rfl | rfl | rfl
      · exact .inl ⟨rfl, rfl, rfl⟩
      · exact .inr (.inl ⟨rfl, rfl, rfl⟩)
      · exact .inr (.inr ⟨rfl, rfl, rfl⟩)
    have em : ((n : Int) - 1) = ((n - 1 : Nat) : Int) := by omega
    rw [Bool.true_and, Int.toNat_natCast]
    refine Holds.mp ?_
    rcases hneq with ⟨e2, e4, e8⟩ | ⟨e2, e4, e8⟩ | ⟨e2, e4, e8⟩ <;> rw [holds_def]
    all_goals
      by_cases hl : y.length = n - 1
      · have e1 : ((y.length : Int) != ((n - 1 : Nat) : Int)) = false := by rw [hl]; exact bne_self_eq_false _
        try simp (disch := first | omega | (simp only [ints_length, List.length_replicate, List.length_set]; done) | (simp only [ints_length, List.length_replicate, List.length_set]; omega)) only [Sall,evalOp,init,binE,binI,unE,convE,okNil,builtE,gv,TD.isAgg,resV,↓reduceIte,Nat.reduceEqDiff,reduceCtorEq,Nat.reduceAdd,Nat.reduceMul,Nat.reduceLeDiff,quietOp,blindOp,Int.reduceEq,Int.reduceLT,Int.reduceLE,Nat.reduceLT,ti2,ti3,ti4,ti79,ti80,ti28,ti25,ti31,ti22,ti33,ti24,ti67,ti111,ti100, e2, e4, e8, e1, builtE, hv.len, w64, em, zeros_zero]
        refine awp_loop (fun m t H' => ∃ (k : Nat) (w : Value) (lo hi : Nat), m = y.length - k ∧ k ≤ y.length ∧ t 6 = .int .i64 k ∧ t 5 = w ∧ t 0 = .int .i64 n ∧ t 1 = v ∧ H.next ≤ lo ∧ lo ≤ hi ∧ hi ≤ H'.next ∧ Up H.next H H' ∧ Fr 1 2 lo hi H' w k (dwnL (y.take k)) ∧ (∀ i, i < k → 1 ≤ y.getD i 0 ∧ y.getD i 0 ≤ ((n - 1 : Nat) : Int))) y.length ?_ ?_
        · refine ⟨0, .slice (some ⟨H.next, 0, some 1⟩) 0 0, H.next, H.next + 1, by omega, by omega, ?_⟩
          try simp (disch := first | omega | (simp only [ints_length, List.length_replicate, List.length_set]; done) | (simp only [ints_length, List.length_replicate, List.length_set]; omega)) only [Sall,evalOp,init,binE,binI,unE,convE,okNil,builtE,gv,TD.isAgg,resV,↓reduceIte,Nat.reduceEqDiff,reduceCtorEq,Nat.reduceAdd,Nat.reduceMul,Nat.reduceLeDiff,quietOp,blindOp,Int.reduceEq,Int.reduceLT,Int.reduceLE,Nat.reduceLT,ti2,ti3,ti4,ti79,ti80,ti28,ti25,ti31,ti22,ti33,ti24,ti67,ti111,ti100, Int.natCast_zero, Nat.not_lt_zero, false_implies, List.take_zero]
          (repeat refine And.intro (by omega) ?_)
          exact ⟨(Up.refl _ H).push (Nat.le_refl _) _, rfl, .inr ⟨H.next, by omega, by omega, rfl, by rw [AH.push_row, if_pos rfl]; rfl⟩⟩
        · rintro m t H' ⟨k, w, lo, hi, hm, hkn, h6, h5, h0, h1, hlo, hlh, hhi, hup, hfr, hall⟩
          have hv' : Rd 1 H' v y.length y := hv.same (hup.le hs).row
          have hup1 := hup.next
          try simp (disch := first | omega | (simp only [ints_length, List.length_replicate, List.length_set]; done) | (simp only [ints_length, List.length_replicate, List.length_set]; omega)) only [Sall,evalOp,init,binE,binI,unE,convE,okNil,builtE,gv,TD.isAgg,resV,↓reduceIte,Nat.reduceEqDiff,reduceCtorEq,Nat.reduceAdd,Nat.reduceMul,Nat.reduceLeDiff,quietOp,blindOp,Int.reduceEq,Int.reduceLT,Int.reduceLE,Nat.reduceLT,ti2,ti3,ti4,ti79,ti80,ti28,ti25,ti31,ti22,ti33,ti24,ti67,ti111,ti100, h6, h1, builtE, hv'.len]
          refine condC_dec (fun h => ?_) (fun h => ?_)
          · obtain ⟨i, o, uu, cc, r, rfl, hr, _, hg, _⟩ := hv'.get (by omega)
            have g1 := hg k (by omega)
            have hout := digB_out (n - 1) y k (by omega)
            have hsn := dwnL_snoc y k (by omega)
            have hallk : ∀ x, y.getD k 0 = x → (1 ≤ x ∧ x ≤ ((n - 1 : Nat) : Int)) → ∀ i, i < k + 1 → 1 ≤ y.getD i 0 ∧ y.getD i 0 ≤ ((n - 1 : Nat) : Int) := fun x hx hxx i hi => by
              by_cases e : i = k
              · rw [e, hx]; exact hxx
              · exact hall i (by omega)
            revert g1 hout hsn hallk
            generalize y.getD k 0 = x
            intro g1 hout hsn hallk
            try simp (disch := first | omega | (simp only [ints_length, List.length_replicate, List.length_set]; done) | (simp only [ints_length, List.length_replicate, List.length_set]; omega)) only [Sall,evalOp,init,binE,binI,unE,convE,okNil,builtE,gv,TD.isAgg,resV,↓reduceIte,Nat.reduceEqDiff,reduceCtorEq,Nat.reduceAdd,Nat.reduceMul,Nat.reduceLeDiff,quietOp,blindOp,Int.reduceEq,Int.reduceLT,Int.reduceLE,Nat.reduceLT,ti2,ti3,ti4,ti79,ti80,ti28,ti25,ti31,ti22,ti33,ti24,ti67,ti111,ti100, h6, h1, h0, hr, g1, w64, em]
            (repeat refine And.intro (by omega) ?_)
            refine (l01In_c _ _ _ _).to ?_
            by_cases hx : 1 ≤ x ∧ x ≤ ((n - 1 : Nat) : Int)
            · rw [decide_eq_true hx]
              have zz : zeros 1 [.int .i64 0] = [.int .i64 0] := rfl
              try simp (disch := first | omega | (simp only [ints_length, List.length_replicate, List.length_set]; done) | (simp only [ints_length, List.length_replicate, List.length_set]; omega)) only [Sall,evalOp,init,binE,binI,unE,convE,okNil,builtE,gv,TD.isAgg,resV,↓reduceIte,Nat.reduceEqDiff,reduceCtorEq,Nat.reduceAdd,Nat.reduceMul,Nat.reduceLeDiff,quietOp,blindOp,Int.reduceEq,Int.reduceLT,Int.reduceLE,Nat.reduceLT,ti2,ti3,ti4,ti79,ti80,ti28,ti25,ti31,ti22,ti33,ti24,ti67,ti111,ti100, h6, h5, h1, h0, hr, g1, w64, Bool.not_true, zz, slCells]
              (repeat refine And.intro (by omega) ?_)
              obtain ⟨H4, e4'⟩ : ∃ H4, H4 = H'.push ⟨2, true, [.int .i64 (x - 1)]⟩ := ⟨_, rfl⟩
              have n4 : H4.next = H'.next + 1 := by rw [e4']; rfl
              have s4 : ∀ i, i < H'.next → H4.row i = H'.row i := fun i hi => by rw [e4', AH.push_row, if_neg (by omega)]
              rw [← e4']
              clear e4'
              refine appE_fr (k := 1) (lo := lo) (hi := hi) (l := dwnL (y.take k)) (m := [x - 1]) (hfr.same fun i _ hi => s4 i (by omega)) rfl (by omega) rfl (by omega) (by decide) (by omega) (by omega) ?_
              intro v' H5 n5 s5 f5
              try simp (disch := first | omega | (simp only [ints_length, List.length_replicate, List.length_set]; done) | (simp only [ints_length, List.length_replicate, List.length_set]; omega)) only [Sall,evalOp,init,binE,binI,unE,convE,okNil,builtE,gv,TD.isAgg,resV,↓reduceIte,Nat.reduceEqDiff,reduceCtorEq,Nat.reduceAdd,Nat.reduceMul,Nat.reduceLeDiff,quietOp,blindOp,Int.reduceEq,Int.reduceLT,Int.reduceLE,Nat.reduceLT,ti2,ti3,ti4,ti79,ti80,ti28,ti25,ti31,ti22,ti33,ti24,ti67,ti111,ti100, h6, h1, h0, w64]
              refine ⟨y.length - (k + 1), by omega, k + 1, v', H4.next, H4.next + 1, rfl, by omega, rfl, rfl, by omega, by omega, by omega, ⟨by omega, fun z hz => by rw [s5 z (by omega) (by omega), s4 z (by omega), hup.row z hz]⟩, ?_, hallk _ rfl hx⟩
              rw [hsn]; exact f5
            · rw [decide_eq_false hx]
              try simp (disch := first | omega | (simp only [ints_length, List.length_replicate, List.length_set]; done) | (simp only [ints_length, List.length_replicate, List.length_set]; omega)) only [Sall,evalOp,init,binE,binI,unE,convE,okNil,builtE,gv,TD.isAgg,resV,↓reduceIte,Nat.reduceEqDiff,reduceCtorEq,Nat.reduceAdd,Nat.reduceMul,Nat.reduceLeDiff,quietOp,blindOp,Int.reduceEq,Int.reduceLT,Int.reduceLE,Nat.reduceLT,ti2,ti3,ti4,ti79,ti80,ti28,ti25,ti31,ti22,ti33,ti24,ti67,ti111,ti100, Bool.not_false]
              rw [hout hx]
              exact ⟨rfl, hup⟩
          · have hk : k = y.length := by omega
            subst hk
            rw [List.take_length] at hfr
            have hol := dwnL_length y
            have hfw2 : Rd 1 H' w (dwnL y).length (dwnL y) := by rw [hol]; exact hfr.rd
            try simp (disch := first | omega | (simp only [ints_length, List.length_replicate, List.length_set]; done) | (simp only [ints_length, List.length_replicate, List.length_set]; omega)) only [Sall,evalOp,init,binE,binI,unE,convE,okNil,builtE,gv,TD.isAgg,resV,↓reduceIte,Nat.reduceEqDiff,reduceCtorEq,Nat.reduceAdd,Nat.reduceMul,Nat.reduceLeDiff,quietOp,blindOp,Int.reduceEq,Int.reduceLT,Int.reduceLE,Nat.reduceLT,ti2,ti3,ti4,ti79,ti80,ti28,ti25,ti31,ti22,ti33,ti24,ti67,ti111,ti100, h5, h0, w64, em]
            refine (l01Order_c (n - 1) (by omega) w (dwnL y) H' hfw2 (by omega)).to ?_
            try simp (disch := first | omega | (simp only [ints_length, List.length_replicate, List.length_set]; done) | (simp only [ints_length, List.length_replicate, List.length_set]; omega)) only [Sall,evalOp,init,binE,binI,unE,convE,okNil,builtE,gv,TD.isAgg,resV,↓reduceIte,Nat.reduceEqDiff,reduceCtorEq,Nat.reduceAdd,Nat.reduceMul,Nat.reduceLeDiff,quietOp,blindOp,Int.reduceEq,Int.reduceLT,Int.reduceLE,Nat.reduceLT,ti2,ti3,ti4,ti79,ti80,ti28,ti25,ti31,ti22,ti33,ti24,ti67,ti111,ti100, true_and]
            rw [digB_ord (n - 1) y hl]
            exact ⟨rfl, hup⟩
      · have e1 : ((y.length : Int) != ((n - 1 : Nat) : Int)) = true := by rw [bne_iff_ne]; omega
        try simp (disch := first | omega | (simp only [ints_length, List.length_replicate, List.length_set]; done) | (simp only [ints_length, List.length_replicate, List.length_set]; omega)) only [Sall,evalOp,init,binE,binI,unE,convE,okNil,builtE,gv,TD.isAgg,resV,↓reduceIte,Nat.reduceEqDiff,reduceCtorEq,Nat.reduceAdd,Nat.reduceMul,Nat.reduceLeDiff,quietOp,blindOp,Int.reduceEq,Int.reduceLT,Int.reduceLE,Nat.reduceLT,ti2,ti3,ti4,ti79,ti80,ti28,ti25,ti31,ti22,ti33,ti24,ti67,ti111,ti100, e2, e4, e8, e1, builtE, hv.len, w64, em]
        rw [digB_len (n - 1) y hl]
        exact ⟨rfl, Up.refl _ _⟩

theorem specDigitRobin_c (q : Int) (v : Value) (m : Nat) (y : List Int) (H : AH) (hq : -9223372036854775808 ≤ q ∧ q ≤ 9223372036854775807) (hv : Rd 1 H v m y) (hm : m ≤ 4294967296) :
    ACalls Try.prog 46 [.int .i64 q, v] H (fun r H' => ∃ u, r = .tuple #[.agg #[.int .i64 (drQ q y), u], .int .i64 (drC q y)] ∧ Up H.next H H' ∧ Fr 14 80 H.next H'.next H' u (drK q y) (drL q y)) := by
  have hmy : y.length = m := by have := hv.1; omega
  subst hmy
  refine ACalls.wf (by kernel_rfl) fun hs => acalls_of_awp [.cell 4 33, .tmp 5] Try.func46 (by kernel_rfl) rfl rfl (Nat.le_of_ble_eq_true rfl) (by kernel_rfl) ?_
  obtain ⟨H1, e1⟩ : ∃ H1, H1 = H.push ⟨33, true, [.int .i64 0, .slice none 0 0]⟩ := ⟨_, rfl⟩
  have up1 : Up H.next H H1 := by rw [e1]; exact (Up.refl _ H).push (by omega) _
  have n1 : H1.next = H.next + 1 := by rw [e1]; rfl
  have r1 : H1.row H.next = some ⟨33, true, [.int .i64 0, .slice none 0 0]⟩ := by rw [e1, AH.push_row, if_pos rfl]
  try simp (disch := first | omega | (simp only [ints_length, List.length_replicate, List.length_set]; done) | (simp only [ints_length, List.length_replicate, List.length_set]; omega)) only [Sall,evalOp,init,binE,binI,unE,convE,okNil,builtE,gv,TD.isAgg,resV,↓reduceIte,Nat.reduceEqDiff,reduceCtorEq,Nat.reduceAdd,Nat.reduceMul,Nat.reduceLeDiff,quietOp,blindOp,Int.reduceEq,Int.reduceLT,Int.reduceLE,Nat.reduceLT,ti2,ti3,ti4,ti79,ti80,ti28,ti25,ti31,ti22,ti33,ti24,ti67,ti111,ti100, true_and]
  rw [← e1]
  clear e1
  have hv1 := hv.same (up1.le hs).row
  refine (l09Digits_c q v y H1 hv1 hm).to ?_
  unfold drQ drC drK drL
  cases hd : digB q y with
  | false =>
    try simp (disch := first | omega | (simp only [ints_length, List.length_replicate, List.length_set]; done) | (simp only [ints_length, List.length_replicate, List.length_set]; omega)) only [Sall,evalOp,init,binE,binI,unE,convE,okNil,builtE,gv,TD.isAgg,resV,↓reduceIte,Nat.reduceEqDiff,reduceCtorEq,Nat.reduceAdd,Nat.reduceMul,Nat.reduceLeDiff,quietOp,blindOp,Int.reduceEq,Int.reduceLT,Int.reduceLE,Nat.reduceLT,ti2,ti3,ti4,ti79,ti80,ti28,ti25,ti31,ti22,ti33,ti24,ti67,ti111,ti100, Bool.not_false, r1]
    exact ⟨_, rfl, up1.set (Nat.le_refl _) _, ⟨rfl, .inl ⟨rfl, rfl⟩⟩⟩
  | true =>
    have hd2 := hd
    unfold digB at hd2
    rw [Bool.and_eq_true, decide_eq_true_iff] at hd2
    obtain ⟨n, rfl, hn, hn2, hn8⟩ := isDig_cases hd2.1
    have hyn : y.length = n - 1 := by
      have h1 := congrArg List.length hd2.2
      rw [sortedL_length, seqL_length, Int.toNat_natCast] at h1
      exact h1
    rw [Int.toNat_natCast]
    try simp (disch := first | omega | (simp only [ints_length, List.length_replicate, List.length_set]; done) | (simp only [ints_length, List.length_replicate, List.length_set]; omega)) only [Sall,evalOp,init,binE,binI,unE,convE,okNil,builtE,gv,TD.isAgg,resV,↓reduceIte,Nat.reduceEqDiff,reduceCtorEq,Nat.reduceAdd,Nat.reduceMul,Nat.reduceLeDiff,quietOp,blindOp,Int.reduceEq,Int.reduceLT,Int.reduceLE,Nat.reduceLT,ti2,ti3,ti4,ti79,ti80,ti28,ti25,ti31,ti22,ti33,ti24,ti67,ti111,ti100, Bool.not_true]
    refine (l09Robin_c n v y H1 (by omega) hv1 (by omega)).ex ?_
    rintro x H5 ⟨up5, hf5⟩
    have n5 := up5.next
    have r5 : H5.row H.next = some ⟨33, true, [.int .i64 0, .slice none 0 0]⟩ := by rw [up5.row _ (by omega), r1]
    have o5 := hf5.rd.one
    try simp (disch := first | omega | (simp only [ints_length, List.length_replicate, List.length_set]; done) | (simp only [ints_length, List.length_replicate, List.length_set]; omega)) only [Sall,evalOp,init,binE,binI,unE,convE,okNil,builtE,gv,TD.isAgg,resV,↓reduceIte,Nat.reduceEqDiff,reduceCtorEq,Nat.reduceAdd,Nat.reduceMul,Nat.reduceLeDiff,quietOp,blindOp,Int.reduceEq,Int.reduceLT,Int.reduceLE,Nat.reduceLT,ti2,ti3,ti4,ti79,ti80,ti28,ti25,ti31,ti22,ti33,ti24,ti67,ti111,ti100, r5, o5]
    refine ⟨_, rfl, (up1.trans up5 (by omega)).set (Nat.le_refl _) _, ?_⟩
    exact (hf5.same (H' := H5.setCells H.next [.int .i64 n, x]) fun i hi _ => by rw [AH.setCells_row, if_neg (by omega)]).wide (by omega) (Nat.le_refl _)
end Go.Proofs.Ytbmpkihggipciaa.A
