/- Contracts: lists that are copied and searched; all orders of numbers, each told to a function. And what follows. -/
import Derived.Test.YtbmpkihggipciaaM4
section
set_option linter.unusedSimpArgs false
set_option linter.unusedVariables false
set_option maxRecDepth 100000
set_option maxHeartbeats 2000000
namespace Go.Proofs.Ytbmpkihggipciaa.A
open Go Go.Abs Go.RowKit

theorem indexI_c (v : Value) (y : List Int) (x : Int) (H : AH) (hv : Rd 1 H v y.length y) (hy : y.length ≤ 4294967296) :
    ACalls Try.prog 132 [v, .int .i64 x] H (is (.int .i64 (firstI (fun i => y.getD i 0 == x) y.length)) H) := by
  refine acalls_up rfl (acalls_of_awp [.tmp 4] Try.func132 (by kernel_rfl) rfl rfl (Nat.le_of_ble_eq_true rfl) (by kernel_rfl) ?_)
  try simp (disch := first | omega | (simp only [ints_length, List.length_replicate, List.length_set]; done) | (simp only [ints_length, List.length_replicate, List.length_set]; omega)) only [Sall,evalOp,init,binE,binI,unE,convE,okNil,builtE,gv,TD.isAgg,resV,↓reduceIte,Nat.reduceEqDiff,reduceCtorEq,Nat.reduceAdd,Nat.reduceMul,Nat.reduceLeDiff,quietOp,blindOp,Int.reduceEq,Int.reduceLT,Int.reduceLE,Nat.reduceLT,ti2,ti3,ti4,ti79,ti80,ti28,ti25,ti31,ti22,ti33,ti24,ti67,ti111,ti145,ti136,ti137,ti117,ti100, builtE, hv.len]
  refine awp_loop (fun m t H' => ∃ a : Nat, m = y.length - a ∧ a ≤ y.length ∧ t 8 = .int .i64 a ∧ t 7 = .int .i64 y.length ∧ t 0 = v ∧ t 1 = .int .i64 x ∧ H' = H ∧ (∀ i, i < a → (y.getD i 0 == x) = false)) y.length ?_ ?_
  · refine ⟨0, by omega, by omega, ?_⟩
    try simp (disch := first | omega | (simp only [ints_length, List.length_replicate, List.length_set]; done) | (simp only [ints_length, List.length_replicate, List.length_set]; omega)) only [Sall,evalOp,init,binE,binI,unE,convE,okNil,builtE,gv,TD.isAgg,resV,↓reduceIte,Nat.reduceEqDiff,reduceCtorEq,Nat.reduceAdd,Nat.reduceMul,Nat.reduceLeDiff,quietOp,blindOp,Int.reduceEq,Int.reduceLT,Int.reduceLE,Nat.reduceLT,ti2,ti3,ti4,ti79,ti80,ti28,ti25,ti31,ti22,ti33,ti24,ti67,ti111,ti145,ti136,ti137,ti117,ti100, Int.natCast_zero, Nat.not_lt_zero, false_implies]
  · rintro m t H' ⟨a, hm, han, h8, h7, h0, h1, rfl, hall⟩
    try simp (disch := first | omega | (simp only [ints_length, List.length_replicate, List.length_set]; done) | (simp only [ints_length, List.length_replicate, List.length_set]; omega)) only [Sall,evalOp,init,binE,binI,unE,convE,okNil,builtE,gv,TD.isAgg,resV,↓reduceIte,Nat.reduceEqDiff,reduceCtorEq,Nat.reduceAdd,Nat.reduceMul,Nat.reduceLeDiff,quietOp,blindOp,Int.reduceEq,Int.reduceLT,Int.reduceLE,Nat.reduceLT,ti2,ti3,ti4,ti79,ti80,ti28,ti25,ti31,ti22,ti33,ti24,ti67,ti111,ti145,ti136,ti137,ti117,ti100, h8, h7]
    refine condC_dec (fun h => ?_) (fun h => ?_)
    · obtain ⟨i, o, u, c, r, rfl, hr, hc, hs, _⟩ := hv.get (by omega)
      have g1 := hs a (by omega)
      by_cases hx : y.getD a 0 = x
      · have e1 : (x == y.getD a 0) = true := by rw [hx]; exact beq_self_eq_true _
        try simp (disch := first | omega | (simp only [ints_length, List.length_replicate, List.length_set]; done) | (simp only [ints_length, List.length_replicate, List.length_set]; omega)) only [Sall,evalOp,init,binE,binI,unE,convE,okNil,builtE,gv,TD.isAgg,resV,↓reduceIte,Nat.reduceEqDiff,reduceCtorEq,Nat.reduceAdd,Nat.reduceMul,Nat.reduceLeDiff,quietOp,blindOp,Int.reduceEq,Int.reduceLT,Int.reduceLE,Nat.reduceLT,ti2,ti3,ti4,ti79,ti80,ti28,ti25,ti31,ti22,ti33,ti24,ti67,ti111,ti145,ti136,ti137,ti117,ti100, h8, h0, h1, hr, g1, e1]
        (repeat refine And.intro (by omega) ?_)
        rw [firstI_at (by omega) (by rw [hx]; exact beq_self_eq_true _) hall]
        exact ⟨rfl, Up.refl _ _⟩
      · have e1 : (x == y.getD a 0) = false := beq_eq_false_iff_ne.2 (Ne.symm hx)
        try simp (disch := first | omega | (simp only [ints_length, List.length_replicate, List.length_set]; done) | (simp only [ints_length, List.length_replicate, List.length_set]; omega)) only [Sall,evalOp,init,binE,binI,unE,convE,okNil,builtE,gv,TD.isAgg,resV,↓reduceIte,Nat.reduceEqDiff,reduceCtorEq,Nat.reduceAdd,Nat.reduceMul,Nat.reduceLeDiff,quietOp,blindOp,Int.reduceEq,Int.reduceLT,Int.reduceLE,Nat.reduceLT,ti2,ti3,ti4,ti79,ti80,ti28,ti25,ti31,ti22,ti33,ti24,ti67,ti111,ti145,ti136,ti137,ti117,ti100, h8, h7, h0, h1, hr, g1, e1, w64]
        (repeat refine And.intro (by omega) ?_)
        refine ⟨y.length - (a + 1), by omega, a + 1, rfl, by omega, rfl, fun i hi => ?_⟩
        by_cases e : i = a
        · rw [e]; exact beq_eq_false_iff_ne.2 hx
        · exact hall i (by omega)
    · try simp (disch := first | omega | (simp only [ints_length, List.length_replicate, List.length_set]; done) | (simp only [ints_length, List.length_replicate, List.length_set]; omega)) only [Sall,evalOp,init,binE,binI,unE,convE,okNil,builtE,gv,TD.isAgg,resV,↓reduceIte,Nat.reduceEqDiff,reduceCtorEq,Nat.reduceAdd,Nat.reduceMul,Nat.reduceLeDiff,quietOp,blindOp,Int.reduceEq,Int.reduceLT,Int.reduceLE,Nat.reduceLT,ti2,ti3,ti4,ti79,ti80,ti28,ti25,ti31,ti22,ti33,ti24,ti67,ti111,ti145,ti136,ti137,ti117,ti100, true_and]
      rw [firstI_none (fun i hi => hall i (by omega))]
      exact ⟨rfl, Up.refl _ _⟩

theorem containsI_c (v : Value) (y : List Int) (x : Int) (H : AH) (hv : Rd 1 H v y.length y) (hy : y.length ≤ 4294967296) :
    ACalls Try.prog 78 [v, .int .i64 x] H (is (.bool (y.contains x)) H) := by
  refine acalls_of_awp [.tmp 4] Try.func78 (by kernel_rfl) rfl rfl (Nat.le_of_ble_eq_true rfl) (by kernel_rfl) ?_
  try simp (disch := first | omega | (simp only [ints_length, List.length_replicate, List.length_set]; done) | (simp only [ints_length, List.length_replicate, List.length_set]; omega)) only [Sall,evalOp,init,binE,binI,unE,convE,okNil,builtE,gv,TD.isAgg,resV,↓reduceIte,Nat.reduceEqDiff,reduceCtorEq,Nat.reduceAdd,Nat.reduceMul,Nat.reduceLeDiff,quietOp,blindOp,Int.reduceEq,Int.reduceLT,Int.reduceLE,Nat.reduceLT,ti2,ti3,ti4,ti79,ti80,ti28,ti25,ti31,ti22,ti33,ti24,ti67,ti111,ti145,ti136,ti137,ti117,ti100, true_and]
  refine (indexI_c v y x H hv hy).to ?_
  try simp (disch := first | omega | (simp only [ints_length, List.length_replicate, List.length_set]; done) | (simp only [ints_length, List.length_replicate, List.length_set]; omega)) only [Sall,evalOp,init,binE,binI,unE,convE,okNil,builtE,gv,TD.isAgg,resV,↓reduceIte,Nat.reduceEqDiff,reduceCtorEq,Nat.reduceAdd,Nat.reduceMul,Nat.reduceLeDiff,quietOp,blindOp,Int.reduceEq,Int.reduceLT,Int.reduceLE,Nat.reduceLT,ti2,ti3,ti4,ti79,ti80,ti28,ti25,ti31,ti22,ti33,ti24,ti67,ti111,ti145,ti136,ti137,ti117,ti100, is, firstI_any]
  exact any_contains y x

/-- What is read where nothing is nil is appended to a new list. -/
theorem rd_seg {k n i o c : Nat} {u : Option Nat} {H : AH} {l : List Int} (h : Rd k H (.slice (some ⟨i, o, u⟩) n c) n l) (hn : 0 < n) : ∃ r, H.row i = some r ∧ o + n * k ≤ r.cells.length ∧ seg r.cells o (n * k) = ints l := by
  rcases h.2 with ⟨h0, _⟩ | ⟨i', o', u', c', r, e, hr, h3, h4⟩
  · omega
  · cases e; exact ⟨r, hr, h3, h4⟩

/-- A list that may be copied: nil, or with a row behind it. -/
def Cp (H : AH) (v : Value) (y : List Int) : Prop := Rd 1 H v y.length y ∧ (y.length = 0 → v = .slice none 0 0 ∨ ∃ i c r, v = .slice (some ⟨i, 0, some 1⟩) 0 c ∧ H.row i = some r ∧ r.rw = true)

theorem Cp.of_fr {ty lo hi : Nat} {H : AH} {v : Value} {y : List Int} (h : Fr 1 ty lo hi H v y.length y) : Cp H v y := by
  refine ⟨h.rd, fun h0 => ?_⟩
  rcases h.2 with ⟨_, rfl⟩ | ⟨i, h1, h2, rfl, hr⟩
  · exact .inl rfl
  · rw [h0]; exact .inr ⟨i, 0, _, rfl, hr, rfl⟩

theorem cloneI_c (v : Value) (y : List Int) (H : AH) (hv : Cp H v y) (hy : y.length ≤ 4194304) :
    ACalls Try.prog 76 [v] H (fun u H' => Up H.next H H' ∧ Fr 1 2 H.next H'.next H' u y.length y) := by
  refine ACalls.wf (by kernel_rfl) fun hs => acalls_of_awp [.tmp 2] Try.func76 (by kernel_rfl) rfl rfl (Nat.le_of_ble_eq_true rfl) (by kernel_rfl) ?_
  obtain ⟨hrd, hz⟩ := hv
  by_cases h0 : y.length = 0
  · have hy0 : y = [] := List.eq_nil_of_length_eq_zero h0
    subst hy0
    rcases hz h0 with rfl | ⟨i, c, r, rfl, hr, hw⟩
    · try simp (disch := first | omega | (simp only [ints_length, List.length_replicate, List.length_set]; done) | (simp only [ints_length, List.length_replicate, List.length_set]; omega)) only [Sall,evalOp,init,binE,binI,unE,convE,okNil,builtE,gv,TD.isAgg,resV,↓reduceIte,Nat.reduceEqDiff,reduceCtorEq,Nat.reduceAdd,Nat.reduceMul,Nat.reduceLeDiff,quietOp,blindOp,Int.reduceEq,Int.reduceLT,Int.reduceLE,Nat.reduceLT,ti2,ti3,ti4,ti79,ti80,ti28,ti25,ti31,ti22,ti33,ti24,ti67,ti111,ti145,ti136,ti137,ti117,ti100, binE, Option.isNone_none]
      exact ⟨Up.refl _ _, ⟨rfl, .inl ⟨rfl, rfl⟩⟩⟩
    · have hi := hs _ _ hr
      have ne : ¬ i = H.next := by omega
      have hok : Go.Abs.Row.ok r [] = True := eq_true (.inl hw)
      try simp (disch := first | omega | (simp only [ints_length, List.length_replicate, List.length_set]; done) | (simp only [ints_length, List.length_replicate, List.length_set]; omega)) only [Sall,evalOp,init,binE,binI,unE,convE,okNil,builtE,gv,TD.isAgg,resV,↓reduceIte,Nat.reduceEqDiff,reduceCtorEq,Nat.reduceAdd,Nat.reduceMul,Nat.reduceLeDiff,quietOp,blindOp,Int.reduceEq,Int.reduceLT,Int.reduceLE,Nat.reduceLT,ti2,ti3,ti4,ti79,ti80,ti28,ti25,ti31,ti22,ti33,ti24,ti67,ti111,ti145,ti136,ti137,ti117,ti100, binE, zeros_zero, slCells, hr, ne, hok, appE]
      (repeat refine And.intro (by omega) ?_)
      refine ⟨(Up.refl _ H).push (Nat.le_refl _) _, ⟨rfl, .inr ⟨H.next, Nat.le_refl _, Nat.lt_succ_self _, rfl, by rw [AH.push_row, if_pos rfl]; rfl⟩⟩⟩
  · obtain ⟨i, o, u, c, r, rfl, hr, hc, _, _⟩ := hrd.get (by omega)
    obtain ⟨r', hr', hc', hseg⟩ := rd_seg hrd (by omega)
    rw [hr] at hr'
    cases hr'
    rw [Nat.mul_one] at hseg hc
    have hi := hs _ _ hr
    have ne : ¬ i = H.next := by omega
    try simp (disch := first | omega | (simp only [ints_length, List.length_replicate, List.length_set]; done) | (simp only [ints_length, List.length_replicate, List.length_set]; omega)) only [Sall,evalOp,init,binE,binI,unE,convE,okNil,builtE,gv,TD.isAgg,resV,↓reduceIte,Nat.reduceEqDiff,reduceCtorEq,Nat.reduceAdd,Nat.reduceMul,Nat.reduceLeDiff,quietOp,blindOp,Int.reduceEq,Int.reduceLT,Int.reduceLE,Nat.reduceLT,ti2,ti3,ti4,ti79,ti80,ti28,ti25,ti31,ti22,ti33,ti24,ti67,ti111,ti145,ti136,ti137,ti117,ti100, binE, zeros_zero, slCells, hr, ne, hseg]
    (repeat refine And.intro (by omega) ?_)
    have h3 : Fr 1 2 H.next (H.next + 1) (H.push ⟨2, true, []⟩) (.slice (some ⟨H.next, 0, some 1⟩) 0 0) 0 [] := ⟨rfl, .inr ⟨H.next, Nat.le_refl _, Nat.lt_succ_self _, rfl, by rw [AH.push_row, if_pos rfl]; rfl⟩⟩
    refine appE_fr h3 rfl (by omega) (by omega) (by omega) (by decide) (by omega) (by rw [AH.push_next]; omega) ?_
    intro v' H4 k1 k2 k3
    rw [AH.push_next] at k1 k2 k3
    rw [Nat.zero_add, List.nil_append] at k3
    have k5 := k3.rd.one
    try simp (disch := first | omega | (simp only [ints_length, List.length_replicate, List.length_set]; done) | (simp only [ints_length, List.length_replicate, List.length_set]; omega)) only [Sall,evalOp,init,binE,binI,unE,convE,okNil,builtE,gv,TD.isAgg,resV,↓reduceIte,Nat.reduceEqDiff,reduceCtorEq,Nat.reduceAdd,Nat.reduceMul,Nat.reduceLeDiff,quietOp,blindOp,Int.reduceEq,Int.reduceLT,Int.reduceLE,Nat.reduceLT,ti2,ti3,ti4,ti79,ti80,ti28,ti25,ti31,ti22,ti33,ti24,ti67,ti111,ti145,ti136,ti137,ti117,ti100, true_and]
    exact ⟨⟨by omega, fun i hi => by rw [k2 i (by omega) (by omega), AH.push_row, if_neg (by omega)]⟩, k3.wide (by omega) (by omega)⟩

theorem l01Own_c (v : Value) (y : List Int) (H : AH) (hv : Cp H v y) (hy : y.length ≤ 4194304) :
    ACalls Try.prog 68 [v] H (fun u H' => Up H.next H H' ∧ Fr 1 2 H.next H'.next H' u y.length y) := by
  refine ACalls.wf (by kernel_rfl) fun hs => acalls_of_awp [.tmp 2] Try.func68 (by kernel_rfl) rfl rfl (Nat.le_of_ble_eq_true rfl) (by kernel_rfl) ?_
  obtain ⟨hrd, hz⟩ := hv
  by_cases h0 : y.length = 0
  · have hy0 : y = [] := List.eq_nil_of_length_eq_zero h0
    subst hy0
    rcases hz h0 with rfl | ⟨i, c, r, rfl, hr, hw⟩
    · try simp (disch := first | omega | (simp only [ints_length, List.length_replicate, List.length_set]; done) | (simp only [ints_length, List.length_replicate, List.length_set]; omega)) only [Sall,evalOp,init,binE,binI,unE,convE,okNil,builtE,gv,TD.isAgg,resV,↓reduceIte,Nat.reduceEqDiff,reduceCtorEq,Nat.reduceAdd,Nat.reduceMul,Nat.reduceLeDiff,quietOp,blindOp,Int.reduceEq,Int.reduceLT,Int.reduceLE,Nat.reduceLT,ti2,ti3,ti4,ti79,ti80,ti28,ti25,ti31,ti22,ti33,ti24,ti67,ti111,ti145,ti136,ti137,ti117,ti100, zeros_zero, slCells, appE]
      refine ⟨(Up.refl _ H).push (Nat.le_refl _) _, ⟨rfl, .inr ⟨H.next, Nat.le_refl _, Nat.lt_succ_self _, rfl, by rw [AH.push_row, if_pos rfl]; rfl⟩⟩⟩
    · have hi := hs _ _ hr
      have ne : ¬ i = H.next := by omega
      have hok : Go.Abs.Row.ok r [] = True := eq_true (.inl hw)
      try simp (disch := first | omega | (simp only [ints_length, List.length_replicate, List.length_set]; done) | (simp only [ints_length, List.length_replicate, List.length_set]; omega)) only [Sall,evalOp,init,binE,binI,unE,convE,okNil,builtE,gv,TD.isAgg,resV,↓reduceIte,Nat.reduceEqDiff,reduceCtorEq,Nat.reduceAdd,Nat.reduceMul,Nat.reduceLeDiff,quietOp,blindOp,Int.reduceEq,Int.reduceLT,Int.reduceLE,Nat.reduceLT,ti2,ti3,ti4,ti79,ti80,ti28,ti25,ti31,ti22,ti33,ti24,ti67,ti111,ti145,ti136,ti137,ti117,ti100, zeros_zero, slCells, hr, ne, hok, appE]
      (repeat refine And.intro (by omega) ?_)
      refine ⟨(Up.refl _ H).push (Nat.le_refl _) _, ⟨rfl, .inr ⟨H.next, Nat.le_refl _, Nat.lt_succ_self _, rfl, by rw [AH.push_row, if_pos rfl]; rfl⟩⟩⟩
  · obtain ⟨i, o, u, c, r, rfl, hr, hc, _, _⟩ := hrd.get (by omega)
    obtain ⟨r', hr', hc', hseg⟩ := rd_seg hrd (by omega)
    rw [hr] at hr'
    cases hr'
    rw [Nat.mul_one] at hseg hc
    have hi := hs _ _ hr
    have ne : ¬ i = H.next := by omega
    try simp (disch := first | omega | (simp only [ints_length, List.length_replicate, List.length_set]; done) | (simp only [ints_length, List.length_replicate, List.length_set]; omega)) only [Sall,evalOp,init,binE,binI,unE,convE,okNil,builtE,gv,TD.isAgg,resV,↓reduceIte,Nat.reduceEqDiff,reduceCtorEq,Nat.reduceAdd,Nat.reduceMul,Nat.reduceLeDiff,quietOp,blindOp,Int.reduceEq,Int.reduceLT,Int.reduceLE,Nat.reduceLT,ti2,ti3,ti4,ti79,ti80,ti28,ti25,ti31,ti22,ti33,ti24,ti67,ti111,ti145,ti136,ti137,ti117,ti100, zeros_zero, slCells, hr, ne, hseg]
    (repeat refine And.intro (by omega) ?_)
    have h3 : Fr 1 2 H.next (H.next + 1) (H.push ⟨2, true, []⟩) (.slice (some ⟨H.next, 0, some 1⟩) 0 0) 0 [] := ⟨rfl, .inr ⟨H.next, Nat.le_refl _, Nat.lt_succ_self _, rfl, by rw [AH.push_row, if_pos rfl]; rfl⟩⟩
    refine appE_fr h3 rfl (by omega) (by omega) (by omega) (by decide) (by omega) (by rw [AH.push_next]; omega) ?_
    intro v' H4 k1 k2 k3
    rw [AH.push_next] at k1 k2 k3
    rw [Nat.zero_add, List.nil_append] at k3
    have k5 := k3.rd.one
    try simp (disch := first | omega | (simp only [ints_length, List.length_replicate, List.length_set]; done) | (simp only [ints_length, List.length_replicate, List.length_set]; omega)) only [Sall,evalOp,init,binE,binI,unE,convE,okNil,builtE,gv,TD.isAgg,resV,↓reduceIte,Nat.reduceEqDiff,reduceCtorEq,Nat.reduceAdd,Nat.reduceMul,Nat.reduceLeDiff,quietOp,blindOp,Int.reduceEq,Int.reduceLT,Int.reduceLE,Nat.reduceLT,ti2,ti3,ti4,ti79,ti80,ti28,ti25,ti31,ti22,ti33,ti24,ti67,ti111,ti145,ti136,ti137,ti117,ti100, true_and]
    exact ⟨⟨by omega, fun i hi => by rw [k2 i (by omega) (by omega), AH.push_row, if_neg (by omega)]⟩, k3.wide (by omega) (by omega)⟩

theorem seqL_succ (a : Int) (m : Nat) : seqL a (m + 1) = seqL a m ++ [a + m] := by simp [seqL, List.range_succ]

theorem numbersFrom_c (a b : Int) (m : Nat) (ha : 0 ≤ a ∧ a ≤ 1024) (hm : m ≤ 1024) (hb : b = a + m - 1) (H : AH) :
    ACalls Try.prog 71 [.int .i64 a, .int .i64 b] H (fun u H' => Up H.next H H' ∧ Fr 1 2 H.next H'.next H' u m (seqL a m)) := by
  refine acalls_of_awp [.tmp 4] Try.func71 (by kernel_rfl) rfl rfl (Nat.le_of_ble_eq_true rfl) (by kernel_rfl) ?_
  try simp (disch := first | omega | (simp only [ints_length, List.length_replicate, List.length_set]; done) | (simp only [ints_length, List.length_replicate, List.length_set]; omega)) only [Sall,evalOp,init,binE,binI,unE,convE,okNil,builtE,gv,TD.isAgg,resV,↓reduceIte,Nat.reduceEqDiff,reduceCtorEq,Nat.reduceAdd,Nat.reduceMul,Nat.reduceLeDiff,quietOp,blindOp,Int.reduceEq,Int.reduceLT,Int.reduceLE,Nat.reduceLT,ti2,ti3,ti4,ti79,ti80,ti28,ti25,ti31,ti22,ti33,ti24,ti67,ti111,ti145,ti136,ti137,ti117,ti100, zeros_zero]
  refine awp_loop (fun z t H' => ∃ (c : Nat) (u : Value) (lo hi : Nat), z = m - c ∧ c ≤ m ∧ t 6 = .int .i64 (a + c) ∧ t 5 = u ∧ t 1 = .int .i64 b ∧ Up H.next H H' ∧ H.next ≤ lo ∧ lo ≤ hi ∧ hi ≤ H'.next ∧ Fr 1 2 lo hi H' u c (seqL a c)) m ?_ ?_
  · refine ⟨0, .slice (some ⟨H.next, 0, some 1⟩) 0 0, H.next, H.next + 1, by omega, by omega, ?_⟩
    try simp (disch := first | omega | (simp only [ints_length, List.length_replicate, List.length_set]; done) | (simp only [ints_length, List.length_replicate, List.length_set]; omega)) only [Sall,evalOp,init,binE,binI,unE,convE,okNil,builtE,gv,TD.isAgg,resV,↓reduceIte,Nat.reduceEqDiff,reduceCtorEq,Nat.reduceAdd,Nat.reduceMul,Nat.reduceLeDiff,quietOp,blindOp,Int.reduceEq,Int.reduceLT,Int.reduceLE,Nat.reduceLT,ti2,ti3,ti4,ti79,ti80,ti28,ti25,ti31,ti22,ti33,ti24,ti67,ti111,ti145,ti136,ti137,ti117,ti100, Int.natCast_zero, Int.add_zero]
    refine ⟨(Up.refl _ H).push (Nat.le_refl _) _, ?_⟩
    (repeat refine And.intro (by omega) ?_)
    exact ⟨rfl, .inr ⟨H.next, Nat.le_refl _, Nat.lt_succ_self _, rfl, by rw [AH.push_row, if_pos rfl]; rfl⟩⟩
  · rintro z t H' ⟨c, u, lo, hi, hz, hcm, h6, h5, h1, hup, hlo, hlh, hhi, hfr⟩
    try simp (disch := first | omega | (simp only [ints_length, List.length_replicate, List.length_set]; done) | (simp only [ints_length, List.length_replicate, List.length_set]; omega)) only [Sall,evalOp,init,binE,binI,unE,convE,okNil,builtE,gv,TD.isAgg,resV,↓reduceIte,Nat.reduceEqDiff,reduceCtorEq,Nat.reduceAdd,Nat.reduceMul,Nat.reduceLeDiff,quietOp,blindOp,Int.reduceEq,Int.reduceLT,Int.reduceLE,Nat.reduceLT,ti2,ti3,ti4,ti79,ti80,ti28,ti25,ti31,ti22,ti33,ti24,ti67,ti111,ti145,ti136,ti137,ti117,ti100, h6, h1]
    refine condC_dec (fun h => ?_) (fun h => ?_)
    · have zz : zeros 1 [.int .i64 0] = [.int .i64 0] := rfl
      have hup1 := hup.next
      try simp (disch := first | omega | (simp only [ints_length, List.length_replicate, List.length_set]; done) | (simp only [ints_length, List.length_replicate, List.length_set]; omega)) only [Sall,evalOp,init,binE,binI,unE,convE,okNil,builtE,gv,TD.isAgg,resV,↓reduceIte,Nat.reduceEqDiff,reduceCtorEq,Nat.reduceAdd,Nat.reduceMul,Nat.reduceLeDiff,quietOp,blindOp,Int.reduceEq,Int.reduceLT,Int.reduceLE,Nat.reduceLT,ti2,ti3,ti4,ti79,ti80,ti28,ti25,ti31,ti22,ti33,ti24,ti67,ti111,ti145,ti136,ti137,ti117,ti100, h6, h5, zz, slCells]
      obtain ⟨H2, e2⟩ : ∃ H2, H2 = H'.push ⟨2, true, [.int .i64 (a + c)]⟩ := ⟨_, rfl⟩
      have n2 : H2.next = H'.next + 1 := by rw [e2]; rfl
      have s2 : ∀ i, i < H'.next → H2.row i = H'.row i := fun i hi => by rw [e2, AH.push_row, if_neg (by omega)]
      rw [← e2]
      clear e2
      refine appE_fr (k := 1) (lo := lo) (hi := hi) (l := seqL a c) (m := [a + (c : Int)]) (hfr.same fun i _ hi => s2 i (by omega)) rfl (by omega) rfl (by omega) (by decide) (by omega) (by omega) ?_
      intro v' H3 n3 s3 f3
      try simp (disch := first | omega | (simp only [ints_length, List.length_replicate, List.length_set]; done) | (simp only [ints_length, List.length_replicate, List.length_set]; omega)) only [Sall,evalOp,init,binE,binI,unE,convE,okNil,builtE,gv,TD.isAgg,resV,↓reduceIte,Nat.reduceEqDiff,reduceCtorEq,Nat.reduceAdd,Nat.reduceMul,Nat.reduceLeDiff,quietOp,blindOp,Int.reduceEq,Int.reduceLT,Int.reduceLE,Nat.reduceLT,ti2,ti3,ti4,ti79,ti80,ti28,ti25,ti31,ti22,ti33,ti24,ti67,ti111,ti145,ti136,ti137,ti117,ti100, h6, h1, w64]
      refine ⟨m - (c + 1), by omega, c + 1, v', H2.next, H2.next + 1, rfl, by omega, by omega, rfl, ⟨by omega, fun i hi => ?_⟩, by omega, by omega, by omega, ?_⟩
      · rw [s3 i (by omega) (by omega), s2 i (by omega), hup.row i hi]
      · rw [seqL_succ]; exact f3
    · try simp (disch := first | omega | (simp only [ints_length, List.length_replicate, List.length_set]; done) | (simp only [ints_length, List.length_replicate, List.length_set]; omega)) only [Sall,evalOp,init,binE,binI,unE,convE,okNil,builtE,gv,TD.isAgg,resV,↓reduceIte,Nat.reduceEqDiff,reduceCtorEq,Nat.reduceAdd,Nat.reduceMul,Nat.reduceLeDiff,quietOp,blindOp,Int.reduceEq,Int.reduceLT,Int.reduceLE,Nat.reduceLT,ti2,ti3,ti4,ti79,ti80,ti28,ti25,ti31,ti22,ti33,ti24,ti67,ti111,ti145,ti136,ti137,ti117,ti100, h5]
      have hc : c = m := by omega
      subst hc
      exact ⟨hup, hfr.wide hlo hhi⟩

/-! ### All orders -/
/-- A list that stays readable as long as the rows from b0 on stay. -/
def Per (b0 : Nat) (H : AH) (v : Value) (y : List Int) : Prop := ∀ H', (∀ i, b0 ≤ i → i < H.next → H'.row i = H.row i) → Cp H' v y
theorem Per.nil (b0 : Nat) (H : AH) : Per b0 H (.slice none 0 0) [] := fun H' _ => ⟨⟨rfl, .inl ⟨rfl, none, 0, rfl, fun _ => rfl⟩⟩, fun _ => .inl rfl⟩
theorem Per.fr {b0 ty lo hi : Nat} {H : AH} {v : Value} {y : List Int} (h : Fr 1 ty lo hi H v y.length y) (hb : b0 ≤ lo) (hn : hi ≤ H.next) : Per b0 H v y := by
  intro H' hr
  refine Cp.of_fr (ty := ty) (lo := lo) (hi := hi) ⟨h.1, ?_⟩
  rcases h.2 with h2 | ⟨i, h1, h2, hv, hri⟩
  · exact .inl h2
  · exact .inr ⟨i, h1, h2, hv, by rw [hr i (by omega) (by omega)]; exact hri⟩

/-- How a walk through all orders ends. -/
def OrdR (b0 : Nat) (cont : List Int → Bool) (S : List (List Int) → AH → Prop) (es L : List (List Int)) (H : AH) (r : Value) (H' : AH) : Prop :=
  H.next ≤ H'.next ∧ (∀ i, b0 ≤ i → i < H.next → H'.row i = H.row i) ∧
  ((r = .bool true ∧ (∀ z ∈ L, cont z = true) ∧ S (es ++ L) H') ∨ (r = .bool false ∧ ∃ L1 z L2, L = L1 ++ z :: L2 ∧ (∀ w ∈ L1, cont w = true) ∧ cont z = false ∧ S (es ++ L1 ++ [z]) H'))

theorem orders_c (g : FuncId) (cap : List Value) (cont : List Int → Bool) (ok : List Int → Prop) (S : List (List Int) → AH → Prop) (b0 : Nat) (nv : Value) (nums : List Int) (B : AH) (hnv : Rd 1 B nv nums.length nums) (hnl : nums.length ≤ 64)
    (hSr : ∀ es H', S es H' → ∀ i r, B.row i = some r → H'.row i = some r)
    (hSt : ∀ es H1 H2, S es H1 → H1.next ≤ H2.next → (∀ i, i < H1.next → H2.row i = H1.row i) → S es H2)
    (hok : ∀ y x, ok y → x ∈ nums → y.contains x = false → ok (y ++ [x]))
    (hstep : ∀ es y v H1, S es H1 → (∀ z ∈ es, cont z = true) → b0 ≤ H1.next → y.length = nums.length → ok y → Cp H1 v y →
      ACalls Try.prog g (v :: cap) H1 (fun r H2 => r = .bool (cont y) ∧ S (es ++ [y]) H2 ∧ H1.next ≤ H2.next ∧ ∀ i, b0 ≤ i → i < H1.next → H2.row i = H1.row i)) :
    ∀ (fuel : Nat) (y : List Int) (es : List (List Int)) (v : Value) (H : AH), fuel + y.length = nums.length → S es H → (∀ z ∈ es, cont z = true) → b0 ≤ H.next → Per b0 H v y → ok y →
      ACalls Try.prog 70 [v, nv, .func (.func g) #[] cap.toArray] H (OrdR b0 cont S es (ordN nums fuel y) H) := by
  intro fuel
  induction fuel with
  | zero =>
    intro y es v H hlen hS hall hb hp hy
    refine acalls_of_awp [.tmp 6] Try.func70 (by kernel_rfl) rfl rfl (Nat.le_of_ble_eq_true rfl) (by kernel_rfl) ?_
    have hcp := hp H (fun i _ _ => rfl)
    have hn := hnv.same (hSr _ _ hS)
    have e1 : ((y.length : Int) == (nums.length : Int)) = true := by rw [show y.length = nums.length by omega]; exact beq_self_eq_true _
    try simp (disch := first | omega | (simp only [ints_length, List.length_replicate, List.length_set]; done) | (simp only [ints_length, List.length_replicate, List.length_set]; omega)) only [Sall,evalOp,init,binE,binI,unE,convE,okNil,builtE,gv,TD.isAgg,resV,↓reduceIte,Nat.reduceEqDiff,reduceCtorEq,Nat.reduceAdd,Nat.reduceMul,Nat.reduceLeDiff,quietOp,blindOp,Int.reduceEq,Int.reduceLT,Int.reduceLE,Nat.reduceLT,ti2,ti3,ti4,ti79,ti80,ti28,ti25,ti31,ti22,ti33,ti24,ti67,ti111,ti145,ti136,ti137,ti117,ti100, builtE, hcp.1.len, hn.len, e1]
    refine (hstep es y v H hS hall hb (by omega) hy hcp).fin ?_
    rintro H2 ⟨hS2, hn2, hr2⟩
    try simp (disch := first | omega | (simp only [ints_length, List.length_replicate, List.length_set]; done) | (simp only [ints_length, List.length_replicate, List.length_set]; omega)) only [Sall,evalOp,init,binE,binI,unE,convE,okNil,builtE,gv,TD.isAgg,resV,↓reduceIte,Nat.reduceEqDiff,reduceCtorEq,Nat.reduceAdd,Nat.reduceMul,Nat.reduceLeDiff,quietOp,blindOp,Int.reduceEq,Int.reduceLT,Int.reduceLE,Nat.reduceLT,ti2,ti3,ti4,ti79,ti80,ti28,ti25,ti31,ti22,ti33,ti24,ti67,ti111,ti145,ti136,ti137,ti117,ti100, true_and]
    refine ⟨hn2, hr2, ?_⟩
    cases hc : cont y with
    | true => exact .inl ⟨rfl, fun z hz => by simp only [ordN, List.mem_singleton] at hz; rw [hz, hc], hS2⟩
    | false => exact .inr ⟨rfl, [], y, [], rfl, by simp, hc, by simpa using hS2⟩
  | succ f ih =>
    intro y es v H hlen hS hall hb hp hy
    refine ACalls.wf (by kernel_rfl) fun hs => acalls_of_awp [.tmp 6] Try.func70 (by kernel_rfl) rfl rfl (Nat.le_of_ble_eq_true rfl) (by kernel_rfl) ?_
    have hcp := hp H (fun i _ _ => rfl)
    have hn := hnv.same (hSr _ _ hS)
    have e1 : ((y.length : Int) == (nums.length : Int)) = false := by rw [beq_eq_false_iff_ne]; omega
    try simp (disch := first | omega | (simp only [ints_length, List.length_replicate, List.length_set]; done) | (simp only [ints_length, List.length_replicate, List.length_set]; omega)) only [Sall,evalOp,init,binE,binI,unE,convE,okNil,builtE,gv,TD.isAgg,resV,↓reduceIte,Nat.reduceEqDiff,reduceCtorEq,Nat.reduceAdd,Nat.reduceMul,Nat.reduceLeDiff,quietOp,blindOp,Int.reduceEq,Int.reduceLT,Int.reduceLE,Nat.reduceLT,ti2,ti3,ti4,ti79,ti80,ti28,ti25,ti31,ti22,ti33,ti24,ti67,ti111,ti145,ti136,ti137,ti117,ti100, builtE, hcp.1.len, hn.len, e1]
    refine awp_loop (fun m t H' => ∃ c : Nat, m = nums.length - c ∧ c ≤ nums.length ∧ t 19 = .int .i64 c ∧ t 18 = .int .i64 nums.length ∧ t 17 = nv ∧ t 0 = v ∧ t 1 = nv ∧ t 2 = .func (.func g) #[] cap.toArray ∧ H.next ≤ H'.next ∧ (∀ i, b0 ≤ i → i < H.next → H'.row i = H.row i) ∧ (∀ z ∈ ordP nums f y c, cont z = true) ∧ S (es ++ ordP nums f y c) H') nums.length ?_ ?_
    · refine ⟨0, by omega, by omega, ?_⟩
      try simp (disch := first | omega | (simp only [ints_length, List.length_replicate, List.length_set]; done) | (simp only [ints_length, List.length_replicate, List.length_set]; omega)) only [Sall,evalOp,init,binE,binI,unE,convE,okNil,builtE,gv,TD.isAgg,resV,↓reduceIte,Nat.reduceEqDiff,reduceCtorEq,Nat.reduceAdd,Nat.reduceMul,Nat.reduceLeDiff,quietOp,blindOp,Int.reduceEq,Int.reduceLT,Int.reduceLE,Nat.reduceLT,ti2,ti3,ti4,ti79,ti80,ti28,ti25,ti31,ti22,ti33,ti24,ti67,ti111,ti145,ti136,ti137,ti117,ti100, Int.natCast_zero, ordP_zero, List.append_nil]
      exact ⟨by simp, hS⟩
    · rintro m t H' ⟨c, hm, hcn, h19, h18, h17, h0, h1, h2, hnx, hrows, hpc, hS'⟩
      try simp (disch := first | omega | (simp only [ints_length, List.length_replicate, List.length_set]; done) | (simp only [ints_length, List.length_replicate, List.length_set]; omega)) only [Sall,evalOp,init,binE,binI,unE,convE,okNil,builtE,gv,TD.isAgg,resV,↓reduceIte,Nat.reduceEqDiff,reduceCtorEq,Nat.reduceAdd,Nat.reduceMul,Nat.reduceLeDiff,quietOp,blindOp,Int.reduceEq,Int.reduceLT,Int.reduceLE,Nat.reduceLT,ti2,ti3,ti4,ti79,ti80,ti28,ti25,ti31,ti22,ti33,ti24,ti67,ti111,ti145,ti136,ti137,ti117,ti100, h19, h18]
      refine condC_dec (fun h => ?_) (fun h => ?_)
      · have hn' := hnv.same (hSr _ _ hS')
        have hcp' := hp H' hrows
        obtain ⟨i, o, u, cc, r, rfl, hr, hc', hg, _⟩ := hn'.get (by omega)
        have g1 := hg c (by omega)
        have hpre := ordP_pre nums f y c (by omega)
        have hsucc := ordP_succ nums f y c (by omega)
        have hxm : nums.getD c 0 ∈ nums := by rw [List.getD_eq_getElem?_getD, List.getElem?_eq_getElem (by omega)]; exact List.getElem_mem _
        revert g1 hsucc hxm
        generalize nums.getD c 0 = x
        intro g1 hsucc hxm
        try simp (disch := first | omega | (simp only [ints_length, List.length_replicate, List.length_set]; done) | (simp only [ints_length, List.length_replicate, List.length_set]; omega)) only [Sall,evalOp,init,binE,binI,unE,convE,okNil,builtE,gv,TD.isAgg,resV,↓reduceIte,Nat.reduceEqDiff,reduceCtorEq,Nat.reduceAdd,Nat.reduceMul,Nat.reduceLeDiff,quietOp,blindOp,Int.reduceEq,Int.reduceLT,Int.reduceLE,Nat.reduceLT,ti2,ti3,ti4,ti79,ti80,ti28,ti25,ti31,ti22,ti33,ti24,ti67,ti111,ti145,ti136,ti137,ti117,ti100, h19, h17, h0, hr, g1]
        (repeat refine And.intro (by omega) ?_)
        refine (containsI_c v y x H' hcp'.1 (by omega)).to ?_
        cases hct : y.contains x with
        | true =>
          rw [hct, if_pos rfl, List.append_nil] at hsucc
          try simp (disch := first | omega | (simp only [ints_length, List.length_replicate, List.length_set]; done) | (simp only [ints_length, List.length_replicate, List.length_set]; omega)) only [Sall,evalOp,init,binE,binI,unE,convE,okNil,builtE,gv,TD.isAgg,resV,↓reduceIte,Nat.reduceEqDiff,reduceCtorEq,Nat.reduceAdd,Nat.reduceMul,Nat.reduceLeDiff,quietOp,blindOp,Int.reduceEq,Int.reduceLT,Int.reduceLE,Nat.reduceLT,ti2,ti3,ti4,ti79,ti80,ti28,ti25,ti31,ti22,ti33,ti24,ti67,ti111,ti145,ti136,ti137,ti117,ti100, Bool.not_true, h19, h18, h17, h0, h1, h2, w64]
          refine ⟨nums.length - (c + 1), by omega, c + 1, rfl, by omega, rfl, hnx, hrows, ?_⟩
          rw [hsucc]; exact ⟨hpc, hS'⟩
        | false =>
          rw [hct, if_neg (by simp)] at hsucc
          have zz : zeros 1 [.int .i64 0] = [.int .i64 0] := rfl
          try simp (disch := first | omega | (simp only [ints_length, List.length_replicate, List.length_set]; done) | (simp only [ints_length, List.length_replicate, List.length_set]; omega)) only [Sall,evalOp,init,binE,binI,unE,convE,okNil,builtE,gv,TD.isAgg,resV,↓reduceIte,Nat.reduceEqDiff,reduceCtorEq,Nat.reduceAdd,Nat.reduceMul,Nat.reduceLeDiff,quietOp,blindOp,Int.reduceEq,Int.reduceLT,Int.reduceLE,Nat.reduceLT,ti2,ti3,ti4,ti79,ti80,ti28,ti25,ti31,ti22,ti33,ti24,ti67,ti111,ti145,ti136,ti137,ti117,ti100, Bool.not_false, h19, h18, h17, h0, h1, h2]
          refine (cloneI_c v y H' hcp' (by omega)).mono ?_
          rintro w H2 ⟨up2, hf⟩
          have n2 := up2.next
          refine Holds.mp ?_
          try simp (disch := first | omega | (simp only [ints_length, List.length_replicate, List.length_set]; done) | (simp only [ints_length, List.length_replicate, List.length_set]; omega)) only [Sall,evalOp,init,binE,binI,unE,convE,okNil,builtE,gv,TD.isAgg,resV,↓reduceIte,Nat.reduceEqDiff,reduceCtorEq,Nat.reduceAdd,Nat.reduceMul,Nat.reduceLeDiff,quietOp,blindOp,Int.reduceEq,Int.reduceLT,Int.reduceLE,Nat.reduceLT,ti2,ti3,ti4,ti79,ti80,ti28,ti25,ti31,ti22,ti33,ti24,ti67,ti111,ti145,ti136,ti137,ti117,ti100, h19, h18, h17, h0, h1, h2, zz, slCells]
          obtain ⟨H3, e3⟩ : ∃ H3, H3 = H2.push ⟨2, true, [.int .i64 x]⟩ := ⟨_, rfl⟩
          have n3 : H3.next = H2.next + 1 := by rw [e3]; rfl
          have s3 : ∀ i, i < H2.next → H3.row i = H2.row i := fun i hi => by rw [e3, AH.push_row, if_neg (by omega)]
          rw [← e3]
          clear e3
          refine appE_fr (k := 1) (lo := H'.next) (hi := H2.next) (l := y) (m := [x]) (hf.same fun i _ hi => s3 i (by omega)) rfl (by omega) rfl (by omega) (by decide) (by omega) (by omega) ?_
          intro v' H4 n4 s4 f4
          have old : ∀ i, i < H'.next → H4.row i = H'.row i := fun i hi => by rw [s4 i (by omega) (by omega), s3 i (by omega), up2.row i hi]
          have hl1 : (y ++ [x]).length = y.length + 1 := by simp
          rw [← hl1] at f4
          try simp (disch := first | omega | (simp only [ints_length, List.length_replicate, List.length_set]; done) | (simp only [ints_length, List.length_replicate, List.length_set]; omega)) only [Sall,evalOp,init,binE,binI,unE,convE,okNil,builtE,gv,TD.isAgg,resV,↓reduceIte,Nat.reduceEqDiff,reduceCtorEq,Nat.reduceAdd,Nat.reduceMul,Nat.reduceLeDiff,quietOp,blindOp,Int.reduceEq,Int.reduceLT,Int.reduceLE,Nat.reduceLT,ti2,ti3,ti4,ti79,ti80,ti28,ti25,ti31,ti22,ti33,ti24,ti67,ti111,ti145,ti136,ti137,ti117,ti100, h19, h18, h17, h0, h1, h2]
          refine (ih (y ++ [x]) (es ++ ordP nums f y c) v' H4 (by omega) (hSt _ _ _ hS' (by omega) old) (fun z hz => (List.mem_append.1 hz).elim (hall z) (hpc z)) (by omega) (Per.fr f4 (by omega) (by omega)) (hok y x hy hxm hct)).mono ?_
          rintro rr H5 ⟨n5, r5, hcase⟩
          have rows5 : ∀ i, b0 ≤ i → i < H.next → H5.row i = H.row i := fun i hb1 hr1 => by rw [r5 i hb1 (by omega), old i (by omega), hrows i hb1 hr1]
          refine Holds.mp ?_
          rcases hcase with ⟨rfl, q1, q2⟩ | ⟨rfl, L1, z, L2, q1, q2, q3, q4⟩ <;> rw [holds_def]
          · try simp (disch := first | omega | (simp only [ints_length, List.length_replicate, List.length_set]; done) | (simp only [ints_length, List.length_replicate, List.length_set]; omega)) only [Sall,evalOp,init,binE,binI,unE,convE,okNil,builtE,gv,TD.isAgg,resV,↓reduceIte,Nat.reduceEqDiff,reduceCtorEq,Nat.reduceAdd,Nat.reduceMul,Nat.reduceLeDiff,quietOp,blindOp,Int.reduceEq,Int.reduceLT,Int.reduceLE,Nat.reduceLT,ti2,ti3,ti4,ti79,ti80,ti28,ti25,ti31,ti22,ti33,ti24,ti67,ti111,ti145,ti136,ti137,ti117,ti100, Bool.not_true, h19, h18, h17, h0, h1, h2, w64]
            refine ⟨nums.length - (c + 1), by omega, c + 1, rfl, by omega, rfl, by omega, rows5, ?_⟩
            rw [hsucc]
            refine ⟨fun z hz => (List.mem_append.1 hz).elim (hpc z) (q1 z), ?_⟩
            rw [← List.append_assoc]; exact q2
          · try simp (disch := first | omega | (simp only [ints_length, List.length_replicate, List.length_set]; done) | (simp only [ints_length, List.length_replicate, List.length_set]; omega)) only [Sall,evalOp,init,binE,binI,unE,convE,okNil,builtE,gv,TD.isAgg,resV,↓reduceIte,Nat.reduceEqDiff,reduceCtorEq,Nat.reduceAdd,Nat.reduceMul,Nat.reduceLeDiff,quietOp,blindOp,Int.reduceEq,Int.reduceLT,Int.reduceLE,Nat.reduceLT,ti2,ti3,ti4,ti79,ti80,ti28,ti25,ti31,ti22,ti33,ti24,ti67,ti111,ti145,ti136,ti137,ti117,ti100, Bool.not_false]
            refine ⟨by omega, rows5, .inr ⟨rfl, ordP nums f y c ++ L1, z, ?_⟩⟩
            obtain ⟨L3, hL3⟩ := hpre
            refine ⟨L2 ++ L3, ?_, fun w hw => (List.mem_append.1 hw).elim (hpc w) (q2 w), q3, ?_⟩
            · rw [hL3, hsucc, q1]; simp
            · rw [← List.append_assoc]; exact q4
      · have hc : c = nums.length := by omega
        subst hc
        rw [ordP_all] at hpc hS'
        try simp (disch := first | omega | (simp only [ints_length, List.length_replicate, List.length_set]; done) | (simp only [ints_length, List.length_replicate, List.length_set]; omega)) only [Sall,evalOp,init,binE,binI,unE,convE,okNil,builtE,gv,TD.isAgg,resV,↓reduceIte,Nat.reduceEqDiff,reduceCtorEq,Nat.reduceAdd,Nat.reduceMul,Nat.reduceLeDiff,quietOp,blindOp,Int.reduceEq,Int.reduceLT,Int.reduceLE,Nat.reduceLT,ti2,ti3,ti4,ti79,ti80,ti28,ti25,ti31,ti22,ti33,ti24,ti67,ti111,ti145,ti136,ti137,ti117,ti100, true_and]
        exact ⟨hnx, hrows, .inl ⟨rfl, hpc, hS'⟩⟩
end Go.Proofs.Ytbmpkihggipciaa.A
end

section
set_option linter.unusedSimpArgs false
set_option linter.unusedVariables false
set_option maxRecDepth 100000
set_option maxHeartbeats 2000000
namespace Go.Proofs.Ytbmpkihggipciaa.A
open Go Go.Abs Go.RowKit

def FbR (lo : Nat) (H : AH) (r : Value) (o : Option (List Int)) : Prop := match o with
  | none => r = .slice none 0 0
  | some z => ∃ fi, lo ≤ fi ∧ fi < H.next ∧ r = .slice (some ⟨fi, 0, some 1⟩) z.length z.length ∧ H.row fi = some ⟨2, true, ints z⟩
def fbG (n f : Nat) (y : List Int) (x : Int) : Option (List Int) := if y.contains x = true then none else fbN n f (y ++ [x])
theorem fbN_succ (n f : Nat) (y : List Int) (h : ¬ (y.length % 4 = 0 ∧ 0 < y.length ∧ fitsB n y = false)) : fbN n (f + 1) y = (seqL 0 n).findSome? (fbG n f y) := by
  conv => lhs; unfold fbN
  rw [if_neg h]
  rfl
theorem mOf_ok {n : Nat} (hn : n = 4 ∨ n = 5 ∨ n = 8 ∨ n = 9) : 1 ≤ mOf n ∧ mOf n ≤ n := by
  rcases hn with rfl | rfl | rfl | rfl <;> decide
theorem made_ok {n : Nat} (hn : n = 4 ∨ n = 5 ∨ n = 8 ∨ n = 9) {y : List Int} (hy : ∀ x ∈ y, 0 ≤ x ∧ x < (n : Int)) (hl : y.length ≤ 16) : EvOk n (madeL (mOf n) y (mOf n)) := by
  have hm := mOf_ok hn
  refine ⟨by rw [madeL_length]; omega, fun i hi => ?_⟩
  rw [madeL_length] at hi
  rw [madeL_getD _ _ _ i hi, mdL_length]
  exact ⟨hl, mdL_mem hm hy⟩

theorem firstBase_c (n : Nat) (hn : n = 4 ∨ n = 5 ∨ n = 8 ∨ n = 9) : ∀ (fuel : Nat) (y : List Int) (v : Value) (lo0 hi0 : Nat) (H : AH), fuel + y.length = n - n % 4 → Fr 1 2 lo0 hi0 H v y.length y → lo0 ≤ hi0 → hi0 ≤ H.next → (∀ x ∈ y, 0 ≤ x ∧ x < (n : Int)) →
    ACalls Try.prog 79 [.int .i64 n, v] H (fun r H' => Up H.next H H' ∧ FbR lo0 H' r (fbN n fuel y)) := by
  intro fuel
  induction fuel with
  | zero =>
    intro y v lo0 hi0 H hlen hv hlh hhi hy
    have hn16 : 1 ≤ n ∧ n ≤ 9 := by omega
    have hl4 : y.length % 4 = 0 := by omega
    refine ACalls.wf (by kernel_rfl) fun hs => acalls_of_awp [.tmp 4] Try.func79 (by kernel_rfl) rfl rfl (Nat.le_of_ble_eq_true rfl) (by kernel_rfl) ?_
    have em : Int.tmod (y.length : Int) 4 = ((y.length % 4 : Nat) : Int) := rfl
    have em2 : Int.tmod (n : Int) 4 = ((n % 4 : Nat) : Int) := rfl
    have hone := hv.rd.one
    have hnone : fitsB n y = false → fbN n 0 y = none := fun h => by
      have hw : whistB n (madeL (mOf n) y (mOf n)) = false := by
        cases hh : whistB n (madeL (mOf n) y (mOf n)) with
        | false => rfl
        | true => rw [whist_fits hh] at h; cases h
      show (if whistB n (madeL (mOf n) y (mOf n)) = true then some y else none) = none
      rw [hw, if_neg (by simp)]
    have e0 : Int.tmod (y.length : Int) 4 = 0 := by rw [em, hl4]; rfl
    have e00 : ((0 : Int) == 0) = true := rfl
    have hEv := made_ok hn hy (by omega)
    have hvl := hv.rd.len
    have hfit : fitsB n y = (eachB (fun x => decide (x ≤ 1)) (tabM n wP (madeL (mOf n) y (mOf n))) && eachB (fun x => decide (x ≤ 2)) (tabM n wO (madeL (mOf n) y (mOf n)))) := rfl
    revert hEv hfit
    obtain ⟨R, eR⟩ : ∃ R, R = madeL (mOf n) y (mOf n) := ⟨_, rfl⟩
    rw [← eR]
    intro hEv hfit
    have hmade := madeFrom_c n (by omega) v y H hv.rd (by omega) hy
    rw [← eR] at hmade
    try simp (disch := first | omega | (simp only [ints_length, List.length_replicate, List.length_set]; done) | (simp only [ints_length, List.length_replicate, List.length_set]; omega)) only [Sall,evalOp,init,binE,binI,unE,convE,okNil,builtE,gv,TD.isAgg,resV,↓reduceIte,Nat.reduceEqDiff,reduceCtorEq,Nat.reduceAdd,Nat.reduceMul,Nat.reduceLeDiff,quietOp,blindOp,Int.reduceEq,Int.reduceLT,Int.reduceLE,Nat.reduceLT,ti2,ti3,ti4,ti79,ti80,ti28,ti25,ti31,ti22,ti33,ti24,ti67,ti111,ti145,ti136,ti137,ti117,ti100, builtE, hvl, e0, e00]
    refine hmade.ex ?_
    rintro u H2 ⟨up2, f2⟩
    have n2 := up2.next
    have o2 := f2.rd.one
    try simp (disch := first | omega | (simp only [ints_length, List.length_replicate, List.length_set]; done) | (simp only [ints_length, List.length_replicate, List.length_set]; omega)) only [Sall,evalOp,init,binE,binI,unE,convE,okNil,builtE,gv,TD.isAgg,resV,↓reduceIte,Nat.reduceEqDiff,reduceCtorEq,Nat.reduceAdd,Nat.reduceMul,Nat.reduceLeDiff,quietOp,blindOp,Int.reduceEq,Int.reduceLT,Int.reduceLE,Nat.reduceLT,ti2,ti3,ti4,ti79,ti80,ti28,ti25,ti31,ti22,ti33,ti24,ti67,ti111,ti145,ti136,ti137,ti117,ti100, o2]
    obtain ⟨H3, e3⟩ : ∃ H3, H3 = (H2.push ⟨117, true, [.int .i64 0, .slice none 0 0]⟩).setCells H2.next [.int .i64 n, u] := ⟨_, rfl⟩
    have up3 : Up H2.next H2 H3 := by rw [e3]; exact ((Up.refl _ H2).push (Nat.le_refl _) _).set (Nat.le_refl _) _
    have r3 : H3.row H2.next = some ⟨117, true, [.int .i64 n, u]⟩ := by rw [e3, AH.setCells_row, if_pos rfl, AH.push_row, if_pos rfl]; rfl
    have n3 : H3.next = H2.next + 1 := by rw [e3]; rfl
    rw [← e3]
    clear e3
    have U3 : Up H.next H H3 := up2.trans up3 n2
    have f3 : Fr2 1 28 2 H.next H2.next H3 u R := f2.same fun i _ hi => up3.row i hi
    refine (partners_c n (by omega) u R H3 f3.rd hEv).mono ?_
    rintro v4 H4 ⟨up4, f4⟩
    have n4 := up4.next
    have r4 : H4.row H2.next = some ⟨117, true, [.int .i64 n, u]⟩ := by rw [up4.row _ (by omega), r3]
    have U4 : Up H.next H H4 := U3.trans up4 (by omega)
    have f34 : Fr2 1 28 2 H.next H2.next H4 u R := f3.same fun i _ hi => up4.row i (by omega)
    refine Holds.mp ?_
    try simp (disch := first | omega | (simp only [ints_length, List.length_replicate, List.length_set]; done) | (simp only [ints_length, List.length_replicate, List.length_set]; omega)) only [Sall,evalOp,init,binE,binI,unE,convE,okNil,builtE,gv,TD.isAgg,resV,↓reduceIte,Nat.reduceEqDiff,reduceCtorEq,Nat.reduceAdd,Nat.reduceMul,Nat.reduceLeDiff,quietOp,blindOp,Int.reduceEq,Int.reduceLT,Int.reduceLE,Nat.reduceLT,ti2,ti3,ti4,ti79,ti80,ti28,ti25,ti31,ti22,ti33,ti24,ti67,ti111,ti145,ti136,ti137,ti117,ti100, true_and]
    refine (areAll_c 135 (fun x => decide (x ≤ 1)) fb1_c v4 n _ H4 f4.rd (tabM_sq _ _ _) (by omega)).to ?_
    cases g1 : eachB (fun x => decide (x ≤ 1)) (tabM n wP R) with
    | false =>
      rw [g1, Bool.false_and] at hfit
      try simp (disch := first | omega | (simp only [ints_length, List.length_replicate, List.length_set]; done) | (simp only [ints_length, List.length_replicate, List.length_set]; omega)) only [Sall,evalOp,init,binE,binI,unE,convE,okNil,builtE,gv,TD.isAgg,resV,↓reduceIte,Nat.reduceEqDiff,reduceCtorEq,Nat.reduceAdd,Nat.reduceMul,Nat.reduceLeDiff,quietOp,blindOp,Int.reduceEq,Int.reduceLT,Int.reduceLE,Nat.reduceLT,ti2,ti3,ti4,ti79,ti80,ti28,ti25,ti31,ti22,ti33,ti24,ti67,ti111,ti145,ti136,ti137,ti117,ti100, Bool.not_false]
      exact ⟨U4, by rw [hnone hfit]; rfl⟩
    | true =>
      rw [g1, Bool.true_and] at hfit
      try simp (disch := first | omega | (simp only [ints_length, List.length_replicate, List.length_set]; done) | (simp only [ints_length, List.length_replicate, List.length_set]; omega)) only [Sall,evalOp,init,binE,binI,unE,convE,okNil,builtE,gv,TD.isAgg,resV,↓reduceIte,Nat.reduceEqDiff,reduceCtorEq,Nat.reduceAdd,Nat.reduceMul,Nat.reduceLeDiff,quietOp,blindOp,Int.reduceEq,Int.reduceLT,Int.reduceLE,Nat.reduceLT,ti2,ti3,ti4,ti79,ti80,ti28,ti25,ti31,ti22,ti33,ti24,ti67,ti111,ti145,ti136,ti137,ti117,ti100, Bool.not_true, r4]
      refine (opponents0_c n (by omega) u R H4 f34.rd hEv).mono ?_
      rintro v5 H5 ⟨up5, f5⟩
      have n5 := up5.next
      have r5 : H5.row H2.next = some ⟨117, true, [.int .i64 n, u]⟩ := by rw [up5.row _ (by omega), r4]
      have U5 : Up H.next H H5 := U4.trans up5 (by omega)
      have f35 : Fr2 1 28 2 H.next H2.next H5 u R := f34.same fun i _ hi => up5.row i (by omega)
      have hv5 : Fr 1 2 lo0 hi0 H5 v y.length y := hv.same fun i _ hi => U5.row i (by omega)
      refine Holds.mp ?_
      try simp (disch := first | omega | (simp only [ints_length, List.length_replicate, List.length_set]; done) | (simp only [ints_length, List.length_replicate, List.length_set]; omega)) only [Sall,evalOp,init,binE,binI,unE,convE,okNil,builtE,gv,TD.isAgg,resV,↓reduceIte,Nat.reduceEqDiff,reduceCtorEq,Nat.reduceAdd,Nat.reduceMul,Nat.reduceLeDiff,quietOp,blindOp,Int.reduceEq,Int.reduceLT,Int.reduceLE,Nat.reduceLT,ti2,ti3,ti4,ti79,ti80,ti28,ti25,ti31,ti22,ti33,ti24,ti67,ti111,ti145,ti136,ti137,ti117,ti100, true_and]
      refine (areAll_c 137 (fun x => decide (x ≤ 2)) fb2_c v5 n _ H5 f5.rd (tabM_sq _ _ _) (by omega)).to ?_
      cases g2 : eachB (fun x => decide (x ≤ 2)) (tabM n wO R) with
      | false =>
        rw [g2] at hfit
        try simp (disch := first | omega | (simp only [ints_length, List.length_replicate, List.length_set]; done) | (simp only [ints_length, List.length_replicate, List.length_set]; omega)) only [Sall,evalOp,init,binE,binI,unE,convE,okNil,builtE,gv,TD.isAgg,resV,↓reduceIte,Nat.reduceEqDiff,reduceCtorEq,Nat.reduceAdd,Nat.reduceMul,Nat.reduceLeDiff,quietOp,blindOp,Int.reduceEq,Int.reduceLT,Int.reduceLE,Nat.reduceLT,ti2,ti3,ti4,ti79,ti80,ti28,ti25,ti31,ti22,ti33,ti24,ti67,ti111,ti145,ti136,ti137,ti117,ti100, Bool.not_false]
        exact ⟨U5, by rw [hnone hfit]; rfl⟩
      | true =>
        rw [g2] at hfit
        try simp (disch := first | omega | (simp only [ints_length, List.length_replicate, List.length_set]; done) | (simp only [ints_length, List.length_replicate, List.length_set]; omega)) only [Sall,evalOp,init,binE,binI,unE,convE,okNil,builtE,gv,TD.isAgg,resV,↓reduceIte,Nat.reduceEqDiff,reduceCtorEq,Nat.reduceAdd,Nat.reduceMul,Nat.reduceLeDiff,quietOp,blindOp,Int.reduceEq,Int.reduceLT,Int.reduceLE,Nat.reduceLT,ti2,ti3,ti4,ti79,ti80,ti28,ti25,ti31,ti22,ti33,ti24,ti67,ti111,ti145,ti136,ti137,ti117,ti100, Bool.not_true, w64]
        refine (size_c v y H5 hv5.rd (by omega)).to ?_
        have e5 : ((y.length : Int) == (n : Int) - ((n % 4 : Nat) : Int)) = true := by rw [beq_iff_eq]; omega
        try simp (disch := first | omega | (simp only [ints_length, List.length_replicate, List.length_set]; done) | (simp only [ints_length, List.length_replicate, List.length_set]; omega)) only [Sall,evalOp,init,binE,binI,unE,convE,okNil,builtE,gv,TD.isAgg,resV,↓reduceIte,Nat.reduceEqDiff,reduceCtorEq,Nat.reduceAdd,Nat.reduceMul,Nat.reduceLeDiff,quietOp,blindOp,Int.reduceEq,Int.reduceLT,Int.reduceLE,Nat.reduceLT,ti2,ti3,ti4,ti79,ti80,ti28,ti25,ti31,ti22,ti33,ti24,ti67,ti111,ti145,ti136,ti137,ti117,ti100, em2, e5, r5, w64]
        refine (isWhist_c n (by omega) u R H5 f35.rd hEv).to ?_
        have e0N : fbN n 0 y = if whistB n R = true then some y else none := by rw [eR]; rfl
        rw [e0N]
        cases hw : whistB n R with
        | true =>
          obtain ⟨fi, k1, k2, ev, k3⟩ := hv5.get (by omega)
          try simp (disch := first | omega | (simp only [ints_length, List.length_replicate, List.length_set]; done) | (simp only [ints_length, List.length_replicate, List.length_set]; omega)) only [Sall,evalOp,init,binE,binI,unE,convE,okNil,builtE,gv,TD.isAgg,resV,↓reduceIte,Nat.reduceEqDiff,reduceCtorEq,Nat.reduceAdd,Nat.reduceMul,Nat.reduceLeDiff,quietOp,blindOp,Int.reduceEq,Int.reduceLT,Int.reduceLE,Nat.reduceLT,ti2,ti3,ti4,ti79,ti80,ti28,ti25,ti31,ti22,ti33,ti24,ti67,ti111,ti145,ti136,ti137,ti117,ti100, true_and]
          exact ⟨U5, fi, k1, by omega, ev, k3⟩
        | false =>
          try simp (disch := first | omega | (simp only [ints_length, List.length_replicate, List.length_set]; done) | (simp only [ints_length, List.length_replicate, List.length_set]; omega)) only [Sall,evalOp,init,binE,binI,unE,convE,okNil,builtE,gv,TD.isAgg,resV,↓reduceIte,Nat.reduceEqDiff,reduceCtorEq,Nat.reduceAdd,Nat.reduceMul,Nat.reduceLeDiff,quietOp,blindOp,Int.reduceEq,Int.reduceLT,Int.reduceLE,Nat.reduceLT,ti2,ti3,ti4,ti79,ti80,ti28,ti25,ti31,ti22,ti33,ti24,ti67,ti111,ti145,ti136,ti137,ti117,ti100, true_and]
          exact ⟨U5, rfl⟩
  | succ f ih =>
    intro y v lo0 hi0 H hlen hv hlh hhi hy
    have hn16 : 1 ≤ n ∧ n ≤ 9 := by omega
    refine ACalls.wf (by kernel_rfl) fun hs => acalls_of_awp [.tmp 4] Try.func79 (by kernel_rfl) rfl rfl (Nat.le_of_ble_eq_true rfl) (by kernel_rfl) ?_
    have em : Int.tmod (y.length : Int) 4 = ((y.length % 4 : Nat) : Int) := rfl
    have em2 : Int.tmod (n : Int) 4 = ((n % 4 : Nat) : Int) := rfl
    have hone := hv.rd.one
    rw [awp_seq]
    refine awp_cutQ (fun t H' => t 0 = .int .i64 n ∧ t 1 = v ∧ H' = H) ?_ ?_
    · try simp (disch := first | omega | (simp only [ints_length, List.length_replicate, List.length_set]; done) | (simp only [ints_length, List.length_replicate, List.length_set]; omega)) only [Sall,evalOp,init,binE,binI,unE,convE,okNil,builtE,gv,TD.isAgg,resV,↓reduceIte,Nat.reduceEqDiff,reduceCtorEq,Nat.reduceAdd,Nat.reduceMul,Nat.reduceLeDiff,quietOp,blindOp,Int.reduceEq,Int.reduceLT,Int.reduceLE,Nat.reduceLT,ti2,ti3,ti4,ti79,ti80,ti28,ti25,ti31,ti22,ti33,ti24,ti67,ti111,ti145,ti136,ti137,ti117,ti100, true_and]
    rintro t H' ⟨h0, h1, rfl⟩
    rw [awp_seq]
    refine awp_cutQ (fun t H2 => t 0 = .int .i64 n ∧ t 1 = v ∧ Up H'.next H' H2 ∧ fbN n (f + 1) y = (seqL 0 n).findSome? (fbG n f y)) ?_ ?_
    · by_cases hl4 : y.length % 4 = 0
      · have hnone : fitsB n y = false → fbN n (f + 1) y = none := fun h => by
          have h0 : 0 < y.length := by
            cases y with
            | nil => rw [fits_nil] at h; cases h
            | cons => simp
          conv => lhs; unfold fbN
          rw [if_pos ⟨hl4, h0, h⟩]
        have e0 : Int.tmod (y.length : Int) 4 = 0 := by rw [em, hl4]; rfl
        have e00 : ((0 : Int) == 0) = true := rfl
        have hEv := made_ok hn hy (by omega)
        have hvl := hv.rd.len
        have hfit : fitsB n y = (eachB (fun x => decide (x ≤ 1)) (tabM n wP (madeL (mOf n) y (mOf n))) && eachB (fun x => decide (x ≤ 2)) (tabM n wO (madeL (mOf n) y (mOf n)))) := rfl
        revert hEv hfit
        obtain ⟨R, eR⟩ : ∃ R, R = madeL (mOf n) y (mOf n) := ⟨_, rfl⟩
        rw [← eR]
        intro hEv hfit
        have hmade := madeFrom_c n (by omega) v y H' hv.rd (by omega) hy
        rw [← eR] at hmade
        try simp (disch := first | omega | (simp only [ints_length, List.length_replicate, List.length_set]; done) | (simp only [ints_length, List.length_replicate, List.length_set]; omega)) only [Sall,evalOp,init,binE,binI,unE,convE,okNil,builtE,gv,TD.isAgg,resV,↓reduceIte,Nat.reduceEqDiff,reduceCtorEq,Nat.reduceAdd,Nat.reduceMul,Nat.reduceLeDiff,quietOp,blindOp,Int.reduceEq,Int.reduceLT,Int.reduceLE,Nat.reduceLT,ti2,ti3,ti4,ti79,ti80,ti28,ti25,ti31,ti22,ti33,ti24,ti67,ti111,ti145,ti136,ti137,ti117,ti100, h0, h1, builtE, hvl, e0, e00]
        refine hmade.ex ?_
        rintro u H2 ⟨up2, f2⟩
        have n2 := up2.next
        have o2 := f2.rd.one
        try simp (disch := first | omega | (simp only [ints_length, List.length_replicate, List.length_set]; done) | (simp only [ints_length, List.length_replicate, List.length_set]; omega)) only [Sall,evalOp,init,binE,binI,unE,convE,okNil,builtE,gv,TD.isAgg,resV,↓reduceIte,Nat.reduceEqDiff,reduceCtorEq,Nat.reduceAdd,Nat.reduceMul,Nat.reduceLeDiff,quietOp,blindOp,Int.reduceEq,Int.reduceLT,Int.reduceLE,Nat.reduceLT,ti2,ti3,ti4,ti79,ti80,ti28,ti25,ti31,ti22,ti33,ti24,ti67,ti111,ti145,ti136,ti137,ti117,ti100, h0, h1, o2]
        obtain ⟨H3, e3⟩ : ∃ H3, H3 = (H2.push ⟨117, true, [.int .i64 0, .slice none 0 0]⟩).setCells H2.next [.int .i64 n, u] := ⟨_, rfl⟩
        have up3 : Up H2.next H2 H3 := by rw [e3]; exact ((Up.refl _ H2).push (Nat.le_refl _) _).set (Nat.le_refl _) _
        have r3 : H3.row H2.next = some ⟨117, true, [.int .i64 n, u]⟩ := by rw [e3, AH.setCells_row, if_pos rfl, AH.push_row, if_pos rfl]; rfl
        have n3 : H3.next = H2.next + 1 := by rw [e3]; rfl
        rw [← e3]
        clear e3
        have U3 : Up H'.next H' H3 := up2.trans up3 n2
        have f3 : Fr2 1 28 2 H'.next H2.next H3 u R := f2.same fun i _ hi => up3.row i hi
        refine (partners_c n (by omega) u R H3 f3.rd hEv).mono ?_
        rintro v4 H4 ⟨up4, f4⟩
        have n4 := up4.next
        have r4 : H4.row H2.next = some ⟨117, true, [.int .i64 n, u]⟩ := by rw [up4.row _ (by omega), r3]
        have U4 : Up H'.next H' H4 := U3.trans up4 (by omega)
        have f34 : Fr2 1 28 2 H'.next H2.next H4 u R := f3.same fun i _ hi => up4.row i (by omega)
        refine Holds.mp ?_
        try simp (disch := first | omega | (simp only [ints_length, List.length_replicate, List.length_set]; done) | (simp only [ints_length, List.length_replicate, List.length_set]; omega)) only [Sall,evalOp,init,binE,binI,unE,convE,okNil,builtE,gv,TD.isAgg,resV,↓reduceIte,Nat.reduceEqDiff,reduceCtorEq,Nat.reduceAdd,Nat.reduceMul,Nat.reduceLeDiff,quietOp,blindOp,Int.reduceEq,Int.reduceLT,Int.reduceLE,Nat.reduceLT,ti2,ti3,ti4,ti79,ti80,ti28,ti25,ti31,ti22,ti33,ti24,ti67,ti111,ti145,ti136,ti137,ti117,ti100, true_and]
        refine (areAll_c 135 (fun x => decide (x ≤ 1)) fb1_c v4 n _ H4 f4.rd (tabM_sq _ _ _) (by omega)).to ?_
        cases g1 : eachB (fun x => decide (x ≤ 1)) (tabM n wP R) with
        | false =>
          rw [g1, Bool.false_and] at hfit
          try simp (disch := first | omega | (simp only [ints_length, List.length_replicate, List.length_set]; done) | (simp only [ints_length, List.length_replicate, List.length_set]; omega)) only [Sall,evalOp,init,binE,binI,unE,convE,okNil,builtE,gv,TD.isAgg,resV,↓reduceIte,Nat.reduceEqDiff,reduceCtorEq,Nat.reduceAdd,Nat.reduceMul,Nat.reduceLeDiff,quietOp,blindOp,Int.reduceEq,Int.reduceLT,Int.reduceLE,Nat.reduceLT,ti2,ti3,ti4,ti79,ti80,ti28,ti25,ti31,ti22,ti33,ti24,ti67,ti111,ti145,ti136,ti137,ti117,ti100, Bool.not_false]
          exact ⟨U4, by rw [hnone hfit]; rfl⟩
        | true =>
          rw [g1, Bool.true_and] at hfit
          try simp (disch := first | omega | (simp only [ints_length, List.length_replicate, List.length_set]; done) | (simp only [ints_length, List.length_replicate, List.length_set]; omega)) only [Sall,evalOp,init,binE,binI,unE,convE,okNil,builtE,gv,TD.isAgg,resV,↓reduceIte,Nat.reduceEqDiff,reduceCtorEq,Nat.reduceAdd,Nat.reduceMul,Nat.reduceLeDiff,quietOp,blindOp,Int.reduceEq,Int.reduceLT,Int.reduceLE,Nat.reduceLT,ti2,ti3,ti4,ti79,ti80,ti28,ti25,ti31,ti22,ti33,ti24,ti67,ti111,ti145,ti136,ti137,ti117,ti100, Bool.not_true, r4]
          refine (opponents0_c n (by omega) u R H4 f34.rd hEv).mono ?_
          rintro v5 H5 ⟨up5, f5⟩
          have n5 := up5.next
          have r5 : H5.row H2.next = some ⟨117, true, [.int .i64 n, u]⟩ := by rw [up5.row _ (by omega), r4]
          have U5 : Up H'.next H' H5 := U4.trans up5 (by omega)
          have f35 : Fr2 1 28 2 H'.next H2.next H5 u R := f34.same fun i _ hi => up5.row i (by omega)
          have hv5 : Fr 1 2 lo0 hi0 H5 v y.length y := hv.same fun i _ hi => U5.row i (by omega)
          refine Holds.mp ?_
          try simp (disch := first | omega | (simp only [ints_length, List.length_replicate, List.length_set]; done) | (simp only [ints_length, List.length_replicate, List.length_set]; omega)) only [Sall,evalOp,init,binE,binI,unE,convE,okNil,builtE,gv,TD.isAgg,resV,↓reduceIte,Nat.reduceEqDiff,reduceCtorEq,Nat.reduceAdd,Nat.reduceMul,Nat.reduceLeDiff,quietOp,blindOp,Int.reduceEq,Int.reduceLT,Int.reduceLE,Nat.reduceLT,ti2,ti3,ti4,ti79,ti80,ti28,ti25,ti31,ti22,ti33,ti24,ti67,ti111,ti145,ti136,ti137,ti117,ti100, true_and]
          refine (areAll_c 137 (fun x => decide (x ≤ 2)) fb2_c v5 n _ H5 f5.rd (tabM_sq _ _ _) (by omega)).to ?_
          cases g2 : eachB (fun x => decide (x ≤ 2)) (tabM n wO R) with
          | false =>
            rw [g2] at hfit
            try simp (disch := first | omega | (simp only [ints_length, List.length_replicate, List.length_set]; done) | (simp only [ints_length, List.length_replicate, List.length_set]; omega)) only [Sall,evalOp,init,binE,binI,unE,convE,okNil,builtE,gv,TD.isAgg,resV,↓reduceIte,Nat.reduceEqDiff,reduceCtorEq,Nat.reduceAdd,Nat.reduceMul,Nat.reduceLeDiff,quietOp,blindOp,Int.reduceEq,Int.reduceLT,Int.reduceLE,Nat.reduceLT,ti2,ti3,ti4,ti79,ti80,ti28,ti25,ti31,ti22,ti33,ti24,ti67,ti111,ti145,ti136,ti137,ti117,ti100, Bool.not_false]
            exact ⟨U5, by rw [hnone hfit]; rfl⟩
          | true =>
            rw [g2] at hfit
            try simp (disch := first | omega | (simp only [ints_length, List.length_replicate, List.length_set]; done) | (simp only [ints_length, List.length_replicate, List.length_set]; omega)) only [Sall,evalOp,init,binE,binI,unE,convE,okNil,builtE,gv,TD.isAgg,resV,↓reduceIte,Nat.reduceEqDiff,reduceCtorEq,Nat.reduceAdd,Nat.reduceMul,Nat.reduceLeDiff,quietOp,blindOp,Int.reduceEq,Int.reduceLT,Int.reduceLE,Nat.reduceLT,ti2,ti3,ti4,ti79,ti80,ti28,ti25,ti31,ti22,ti33,ti24,ti67,ti111,ti145,ti136,ti137,ti117,ti100, Bool.not_true, h0, h1, w64]
            refine (size_c v y H5 hv5.rd (by omega)).to ?_
            have e5 : ((y.length : Int) == (n : Int) - ((n % 4 : Nat) : Int)) = false := by rw [beq_eq_false_iff_ne]; omega
            try simp (disch := first | omega | (simp only [ints_length, List.length_replicate, List.length_set]; done) | (simp only [ints_length, List.length_replicate, List.length_set]; omega)) only [Sall,evalOp,init,binE,binI,unE,convE,okNil,builtE,gv,TD.isAgg,resV,↓reduceIte,Nat.reduceEqDiff,reduceCtorEq,Nat.reduceAdd,Nat.reduceMul,Nat.reduceLeDiff,quietOp,blindOp,Int.reduceEq,Int.reduceLT,Int.reduceLE,Nat.reduceLT,ti2,ti3,ti4,ti79,ti80,ti28,ti25,ti31,ti22,ti33,ti24,ti67,ti111,ti145,ti136,ti137,ti117,ti100, em2, e5, w64, h0, h1]
            exact ⟨U5, fbN_succ n f y (fun h => by rw [hfit] at h; cases h.2.2)⟩
      · have e0 : (Int.tmod (y.length : Int) 4 == 0) = false := by rw [em, beq_eq_false_iff_ne]; omega
        have hvl := hv.rd.len
        try simp (disch := first | omega | (simp only [ints_length, List.length_replicate, List.length_set]; done) | (simp only [ints_length, List.length_replicate, List.length_set]; omega)) only [Sall,evalOp,init,binE,binI,unE,convE,okNil,builtE,gv,TD.isAgg,resV,↓reduceIte,Nat.reduceEqDiff,reduceCtorEq,Nat.reduceAdd,Nat.reduceMul,Nat.reduceLeDiff,quietOp,blindOp,Int.reduceEq,Int.reduceLT,Int.reduceLE,Nat.reduceLT,ti2,ti3,ti4,ti79,ti80,ti28,ti25,ti31,ti22,ti33,ti24,ti67,ti111,ti145,ti136,ti137,ti117,ti100, h0, h1, builtE, hvl, e0]
        exact ⟨Up.refl _ _, fbN_succ n f y (fun h => hl4 h.1)⟩
    · rintro t H2 ⟨h0, h1, up2, hfb⟩
      rw [hfb]
      have hup2 := up2.next
      have hv2 : Fr 1 2 lo0 hi0 H2 v y.length y := hv.same fun i _ hi => up2.row i (by omega)
      try simp (disch := first | omega | (simp only [ints_length, List.length_replicate, List.length_set]; done) | (simp only [ints_length, List.length_replicate, List.length_set]; omega)) only [Sall,evalOp,init,binE,binI,unE,convE,okNil,builtE,gv,TD.isAgg,resV,↓reduceIte,Nat.reduceEqDiff,reduceCtorEq,Nat.reduceAdd,Nat.reduceMul,Nat.reduceLeDiff,quietOp,blindOp,Int.reduceEq,Int.reduceLT,Int.reduceLE,Nat.reduceLT,ti2,ti3,ti4,ti79,ti80,ti28,ti25,ti31,ti22,ti33,ti24,ti67,ti111,ti145,ti136,ti137,ti117,ti100, h0, h1]
      refine awp_loop (fun m t H3 => ∃ a : Nat, m = n - a ∧ a ≤ n ∧ t 36 = .int .i64 a ∧ t 35 = .int .i64 n ∧ t 0 = .int .i64 n ∧ t 1 = v ∧ Up H'.next H' H3 ∧ (∀ j, j < a → fbG n f y (j : Int) = none)) n ?_ ?_
      · refine ⟨0, by omega, by omega, ?_⟩
        try simp (disch := first | omega | (simp only [ints_length, List.length_replicate, List.length_set]; done) | (simp only [ints_length, List.length_replicate, List.length_set]; omega)) only [Sall,evalOp,init,binE,binI,unE,convE,okNil,builtE,gv,TD.isAgg,resV,↓reduceIte,Nat.reduceEqDiff,reduceCtorEq,Nat.reduceAdd,Nat.reduceMul,Nat.reduceLeDiff,quietOp,blindOp,Int.reduceEq,Int.reduceLT,Int.reduceLE,Nat.reduceLT,ti2,ti3,ti4,ti79,ti80,ti28,ti25,ti31,ti22,ti33,ti24,ti67,ti111,ti145,ti136,ti137,ti117,ti100, Int.natCast_zero, h0, h1, Nat.not_lt_zero, false_implies]
        exact up2
      · rintro m t H3 ⟨a, hm, ha, h36, h35, h0, h1, up3, hall⟩
        have hup3 := up3.next
        have hv3 : Fr 1 2 lo0 hi0 H3 v y.length y := hv.same fun i _ hi => up3.row i (by omega)
        try simp (disch := first | omega | (simp only [ints_length, List.length_replicate, List.length_set]; done) | (simp only [ints_length, List.length_replicate, List.length_set]; omega)) only [Sall,evalOp,init,binE,binI,unE,convE,okNil,builtE,gv,TD.isAgg,resV,↓reduceIte,Nat.reduceEqDiff,reduceCtorEq,Nat.reduceAdd,Nat.reduceMul,Nat.reduceLeDiff,quietOp,blindOp,Int.reduceEq,Int.reduceLT,Int.reduceLE,Nat.reduceLT,ti2,ti3,ti4,ti79,ti80,ti28,ti25,ti31,ti22,ti33,ti24,ti67,ti111,ti145,ti136,ti137,ti117,ti100, h36, h35]
        refine condC_dec (fun h => ?_) (fun h => ?_)
        · try simp (disch := first | omega | (simp only [ints_length, List.length_replicate, List.length_set]; done) | (simp only [ints_length, List.length_replicate, List.length_set]; omega)) only [Sall,evalOp,init,binE,binI,unE,convE,okNil,builtE,gv,TD.isAgg,resV,↓reduceIte,Nat.reduceEqDiff,reduceCtorEq,Nat.reduceAdd,Nat.reduceMul,Nat.reduceLeDiff,quietOp,blindOp,Int.reduceEq,Int.reduceLT,Int.reduceLE,Nat.reduceLT,ti2,ti3,ti4,ti79,ti80,ti28,ti25,ti31,ti22,ti33,ti24,ti67,ti111,ti145,ti136,ti137,ti117,ti100, h36, h35, h0, h1]
          refine (containsI_c v y a H3 hv3.rd (by omega)).to ?_
          have step : fbG n f y (a : Int) = none → ∀ j, j < a + 1 → fbG n f y (j : Int) = none := fun h j hj => by
            by_cases e : j = a
            · rw [e]; exact h
            · exact hall j (by omega)
          cases hcon : y.contains (a : Int) with
          | true =>
            have hno : fbG n f y (a : Int) = none := by unfold fbG; rw [if_pos hcon]
            try simp (disch := first | omega | (simp only [ints_length, List.length_replicate, List.length_set]; done) | (simp only [ints_length, List.length_replicate, List.length_set]; omega)) only [Sall,evalOp,init,binE,binI,unE,convE,okNil,builtE,gv,TD.isAgg,resV,↓reduceIte,Nat.reduceEqDiff,reduceCtorEq,Nat.reduceAdd,Nat.reduceMul,Nat.reduceLeDiff,quietOp,blindOp,Int.reduceEq,Int.reduceLT,Int.reduceLE,Nat.reduceLT,ti2,ti3,ti4,ti79,ti80,ti28,ti25,ti31,ti22,ti33,ti24,ti67,ti111,ti145,ti136,ti137,ti117,ti100, h36, h35, h0, h1, w64]
            refine ⟨n - (a + 1), by omega, a + 1, by omega, by omega, by omega, up3, step hno⟩
          | false =>
            have hgo : fbG n f y (a : Int) = fbN n f (y ++ [(a : Int)]) := by unfold fbG; rw [hcon, if_neg (by simp)]
            have zz : zeros 1 [.int .i64 0] = [.int .i64 0] := rfl
            try simp (disch := first | omega | (simp only [ints_length, List.length_replicate, List.length_set]; done) | (simp only [ints_length, List.length_replicate, List.length_set]; omega)) only [Sall,evalOp,init,binE,binI,unE,convE,okNil,builtE,gv,TD.isAgg,resV,↓reduceIte,Nat.reduceEqDiff,reduceCtorEq,Nat.reduceAdd,Nat.reduceMul,Nat.reduceLeDiff,quietOp,blindOp,Int.reduceEq,Int.reduceLT,Int.reduceLE,Nat.reduceLT,ti2,ti3,ti4,ti79,ti80,ti28,ti25,ti31,ti22,ti33,ti24,ti67,ti111,ti145,ti136,ti137,ti117,ti100, h36, h35, h0, h1]
            refine (cloneI_c v y H3 (Cp.of_fr hv3) (by omega)).mono ?_
            rintro x H4 ⟨up4, hf4⟩
            have n4 := up4.next
            refine Holds.mp ?_
            try simp (disch := first | omega | (simp only [ints_length, List.length_replicate, List.length_set]; done) | (simp only [ints_length, List.length_replicate, List.length_set]; omega)) only [Sall,evalOp,init,binE,binI,unE,convE,okNil,builtE,gv,TD.isAgg,resV,↓reduceIte,Nat.reduceEqDiff,reduceCtorEq,Nat.reduceAdd,Nat.reduceMul,Nat.reduceLeDiff,quietOp,blindOp,Int.reduceEq,Int.reduceLT,Int.reduceLE,Nat.reduceLT,ti2,ti3,ti4,ti79,ti80,ti28,ti25,ti31,ti22,ti33,ti24,ti67,ti111,ti145,ti136,ti137,ti117,ti100, zz, slCells]
            obtain ⟨H5, e5⟩ : ∃ H5, H5 = H4.push ⟨2, true, [.int .i64 a]⟩ := ⟨_, rfl⟩
            have n5 : H5.next = H4.next + 1 := by rw [e5]; rfl
            have s5 : ∀ i, i < H4.next → H5.row i = H4.row i := fun i hi => by rw [e5, AH.push_row, if_neg (by omega)]
            rw [← e5]
            clear e5
            refine appE_fr (k := 1) (lo := H3.next) (hi := H4.next) (l := y) (m := [(a : Int)]) (hf4.same fun i _ hi => s5 i (by omega)) rfl (by omega) rfl (by omega) (by decide) (by omega) (by omega) ?_
            intro v' H6 n6 s6 f6
            have up6 : Up H'.next H' H6 := ⟨by omega, fun i hi => by rw [s6 i (by omega) (by omega), s5 i (by omega), up4.row i (by omega), up3.row i hi]⟩
            have hrec := ih (y ++ [(a : Int)]) v' H5.next (H5.next + 1) H6 (by rw [List.length_append, List.length_singleton]; omega) (by rw [List.length_append, List.length_singleton]; exact f6) (by omega) (by omega) (fun z hz => by
              rcases List.mem_append.1 hz with hz | hz
              · exact hy z hz
              · rw [List.mem_singleton] at hz; omega)
            try simp (disch := first | omega | (simp only [ints_length, List.length_replicate, List.length_set]; done) | (simp only [ints_length, List.length_replicate, List.length_set]; omega)) only [Sall,evalOp,init,binE,binI,unE,convE,okNil,builtE,gv,TD.isAgg,resV,↓reduceIte,Nat.reduceEqDiff,reduceCtorEq,Nat.reduceAdd,Nat.reduceMul,Nat.reduceLeDiff,quietOp,blindOp,Int.reduceEq,Int.reduceLT,Int.reduceLE,Nat.reduceLT,ti2,ti3,ti4,ti79,ti80,ti28,ti25,ti31,ti22,ti33,ti24,ti67,ti111,ti145,ti136,ti137,ti117,ti100, true_and]
            refine hrec.mono ?_
            rintro r H7 ⟨up7, hr7⟩
            have n7 := up7.next
            have U7 : Up H'.next H' H7 := up6.trans up7 (by omega)
            refine Holds.mp ?_
            cases hz : fbN n f (y ++ [(a : Int)]) with
            | none =>
              rw [hz] at hr7 hgo
              have er : r = .slice none 0 0 := hr7
              try simp (disch := first | omega | (simp only [ints_length, List.length_replicate, List.length_set]; done) | (simp only [ints_length, List.length_replicate, List.length_set]; omega)) only [Sall,evalOp,init,binE,binI,unE,convE,okNil,builtE,gv,TD.isAgg,resV,↓reduceIte,Nat.reduceEqDiff,reduceCtorEq,Nat.reduceAdd,Nat.reduceMul,Nat.reduceLeDiff,quietOp,blindOp,Int.reduceEq,Int.reduceLT,Int.reduceLE,Nat.reduceLT,ti2,ti3,ti4,ti79,ti80,ti28,ti25,ti31,ti22,ti33,ti24,ti67,ti111,ti145,ti136,ti137,ti117,ti100, er, binE, Option.isNone_none, h36, h35, h0, h1, w64]
              exact ⟨n - (a + 1), by omega, a + 1, by omega, by omega, by omega, U7, step hgo⟩
            | some z =>
              rw [hz] at hr7 hgo
              obtain ⟨fi, b1, b2, er, b3⟩ := hr7
              rw [findSome_take (fbG n f y) n a (by omega) hall hgo]
              try simp (disch := first | omega | (simp only [ints_length, List.length_replicate, List.length_set]; done) | (simp only [ints_length, List.length_replicate, List.length_set]; omega)) only [Sall,evalOp,init,binE,binI,unE,convE,okNil,builtE,gv,TD.isAgg,resV,↓reduceIte,Nat.reduceEqDiff,reduceCtorEq,Nat.reduceAdd,Nat.reduceMul,Nat.reduceLeDiff,quietOp,blindOp,Int.reduceEq,Int.reduceLT,Int.reduceLE,Nat.reduceLT,ti2,ti3,ti4,ti79,ti80,ti28,ti25,ti31,ti22,ti33,ti24,ti67,ti111,ti145,ti136,ti137,ti117,ti100, er, binE, Option.isNone_some]
              exact ⟨U7, fi, by omega, b2, rfl, b3⟩
        · have ha2 : a = n := by omega
          subst ha2
          rw [findSome_none (fbG a f y) a hall]
          try simp (disch := first | omega | (simp only [ints_length, List.length_replicate, List.length_set]; done) | (simp only [ints_length, List.length_replicate, List.length_set]; omega)) only [Sall,evalOp,init,binE,binI,unE,convE,okNil,builtE,gv,TD.isAgg,resV,↓reduceIte,Nat.reduceEqDiff,reduceCtorEq,Nat.reduceAdd,Nat.reduceMul,Nat.reduceLeDiff,quietOp,blindOp,Int.reduceEq,Int.reduceLT,Int.reduceLE,Nat.reduceLT,ti2,ti3,ti4,ti79,ti80,ti28,ti25,ti31,ti22,ti33,ti24,ti67,ti111,ti145,ti136,ti137,ti117,ti100, true_and]
          exact ⟨up3, rfl⟩
end Go.Proofs.Ytbmpkihggipciaa.A
end

section
set_option linter.unusedSimpArgs false
set_option linter.unusedVariables false
set_option maxRecDepth 100000
set_option maxHeartbeats 2000000
namespace Go.Proofs.Ytbmpkihggipciaa.A
open Go Go.Abs Go.RowKit

theorem xor4 : ∀ a w : Fin 4, IntKind.i64.wrap ((BitVec.ofInt IntKind.i64.bits ((a.val : Nat) : Int) ^^^ BitVec.ofInt IntKind.i64.bits ((w.val : Nat) : Int)).toNat : Int) = ((a.val ^^^ w.val : Nat) : Int) := by decide
theorem xor4' {a w : Nat} (ha : a < 4) (hw : w < 4) : IntKind.i64.wrap ((BitVec.ofInt IntKind.i64.bits (a : Int) ^^^ BitVec.ofInt IntKind.i64.bits (w : Int)).toNat : Int) = ((a ^^^ w : Nat) : Int) := xor4 ⟨a, ha⟩ ⟨w, hw⟩
theorem xor_lt4 {a w : Nat} (ha : a < 4) (hw : w < 4) : a ^^^ w < 4 := Nat.xor_lt_two_pow (n := 2) ha hw

theorem l06Table_c (n : Nat) (hn : 1 ≤ n ∧ n ≤ 16) (u : Value) (R : List (List Int)) (wv : Value) (us : List Nat) (ws : List (Nat × Nat)) (hway : wayOk us ws) (H : AH) (hu : Rd2 1 H u R) (hw : Rd 1 H wv us.length (us.map fun (w : Nat) => (w : Int))) (hus : ∀ w ∈ us, w < 4) (hul : us.length ≤ 4)
    (hR : EvOk n R) (hR4 : ∀ i, i < R.length → (R.getD i []).length % 4 = 0) :
    ACalls Try.prog 171 [.agg #[.int .i64 n, u], wv] H (fun r H' => Up H.next H H' ∧ Fr2 1 28 2 H.next H'.next H' r (tabM n ws R)) := by
  refine ACalls.wf (by kernel_rfl) fun hs => acalls_of_awp [.tmp 4] Try.func171 (by kernel_rfl) rfl rfl (Nat.le_of_ble_eq_true rfl) (by kernel_rfl) ?_
  have hone := hu.one
  have hRl := hR.1
  rw [← svA_tab hway hR4]
  have up : Up H.next H (H.push ⟨117, true, [.int .i64 n, u]⟩) := (Up.refl _ H).push (Nat.le_refl _) _
  have e1 : (H.push ⟨117, true, [.int .i64 n, u]⟩).row H.next = some ⟨117, true, [.int .i64 n, u]⟩ := by rw [AH.push_row, if_pos rfl]
  have n1 : (H.push ⟨117, true, [.int .i64 n, u]⟩).next = H.next + 1 := rfl
  try simp (disch := first | omega | (simp only [ints_length, List.length_replicate, List.length_set]; done) | (simp only [ints_length, List.length_replicate, List.length_set]; omega)) only [Sall,evalOp,init,binE,binI,unE,convE,okNil,builtE,gv,TD.isAgg,resV,↓reduceIte,Nat.reduceEqDiff,reduceCtorEq,Nat.reduceAdd,Nat.reduceMul,Nat.reduceLeDiff,quietOp,blindOp,Int.reduceEq,Int.reduceLT,Int.reduceLE,Nat.reduceLT,ti2,ti3,ti4,ti79,ti80,ti28,ti25,ti31,ti22,ti33,ti24,ti67,ti111,ti145,ti136,ti137,ti117,ti100, hone]
  revert up e1 n1
  generalize H.push ⟨117, true, [.int .i64 n, u]⟩ = H1
  intro up e1 n1
  try simp (disch := first | omega | (simp only [ints_length, List.length_replicate, List.length_set]; done) | (simp only [ints_length, List.length_replicate, List.length_set]; omega)) only [Sall,evalOp,init,binE,binI,unE,convE,okNil,builtE,gv,TD.isAgg,resV,↓reduceIte,Nat.reduceEqDiff,reduceCtorEq,Nat.reduceAdd,Nat.reduceMul,Nat.reduceLeDiff,quietOp,blindOp,Int.reduceEq,Int.reduceLT,Int.reduceLE,Nat.reduceLT,ti2,ti3,ti4,ti79,ti80,ti28,ti25,ti31,ti22,ti33,ti24,ti67,ti111,ti145,ti136,ti137,ti117,ti100, zeros_zero]
  refine awp_loop (fun m t H' => ∃ (a : Nat) (o : Value) (lo hi : Nat), m = n - a ∧ a ≤ n ∧ t 6 = .int .i64 a ∧ t 5 = o ∧ t 1 = wv ∧ t 2 = .pointer (some ⟨H.next, 0, none⟩) ∧ Up H.next H H' ∧ H'.row H.next = some ⟨117, true, [.int .i64 n, u]⟩ ∧ H.next < lo ∧ lo ≤ hi ∧ hi ≤ H'.next ∧ Fr2 1 28 2 lo hi H' o (List.replicate a (List.replicate n 0))) n ?_ ?_
  · refine ⟨0, .slice (some ⟨H1.next, 0, some 1⟩) 0 0, H1.next, H1.next + 1, by omega, by omega, ?_⟩
    try simp (disch := first | omega | (simp only [ints_length, List.length_replicate, List.length_set]; done) | (simp only [ints_length, List.length_replicate, List.length_set]; omega)) only [Sall,evalOp,init,binE,binI,unE,convE,okNil,builtE,gv,TD.isAgg,resV,↓reduceIte,Nat.reduceEqDiff,reduceCtorEq,Nat.reduceAdd,Nat.reduceMul,Nat.reduceLeDiff,quietOp,blindOp,Int.reduceEq,Int.reduceLT,Int.reduceLE,Nat.reduceLT,ti2,ti3,ti4,ti79,ti80,ti28,ti25,ti31,ti22,ti33,ti24,ti67,ti111,ti145,ti136,ti137,ti117,ti100, Int.natCast_zero]
    refine ⟨by rw [n1], up.push (by omega) _, by rw [if_neg (by omega), e1], ?_⟩
    (repeat refine And.intro (by omega) ?_)
    exact .inr ⟨H1.next, [], fun _ => H1.next + 1, by omega, by omega, rfl, by rw [AH.push_row, if_pos rfl], rfl, by dsimp only; omega, by dsimp only; omega, .inl (by dsimp only; omega), fun _ => Nat.le_refl _, fun j hj => by simp at hj⟩
  · rintro m t H' ⟨a, o, lo, hi, hm, han, h6, h5, h1, h2, hup, hr1, hlo, hlh, hhi, hfr⟩
    have hup1 := hup.next
    try simp (disch := first | omega | (simp only [ints_length, List.length_replicate, List.length_set]; done) | (simp only [ints_length, List.length_replicate, List.length_set]; omega)) only [Sall,evalOp,init,binE,binI,unE,convE,okNil,builtE,gv,TD.isAgg,resV,↓reduceIte,Nat.reduceEqDiff,reduceCtorEq,Nat.reduceAdd,Nat.reduceMul,Nat.reduceLeDiff,quietOp,blindOp,Int.reduceEq,Int.reduceLT,Int.reduceLE,Nat.reduceLT,ti2,ti3,ti4,ti79,ti80,ti28,ti25,ti31,ti22,ti33,ti24,ti67,ti111,ti145,ti136,ti137,ti117,ti100, h6, h2, hr1]
    refine condC_dec (fun h => ?_) (fun h => ?_)
    · have zz : zeros 1 [.slice none 0 0] = [.slice none 0 0] := rfl
      have ne1 : ¬ H'.next = H'.next + 1 := by omega
      try simp (disch := first | omega | (simp only [ints_length, List.length_replicate, List.length_set]; done) | (simp only [ints_length, List.length_replicate, List.length_set]; omega)) only [Sall,evalOp,init,binE,binI,unE,convE,okNil,builtE,gv,TD.isAgg,resV,↓reduceIte,Nat.reduceEqDiff,reduceCtorEq,Nat.reduceAdd,Nat.reduceMul,Nat.reduceLeDiff,quietOp,blindOp,Int.reduceEq,Int.reduceLT,Int.reduceLE,Nat.reduceLT,ti2,ti3,ti4,ti79,ti80,ti28,ti25,ti31,ti22,ti33,ti24,ti67,ti111,ti145,ti136,ti137,ti117,ti100, h6, h5, h1, h2, hr1, zeros_int0, zz, slCells]
      (repeat refine And.intro (by omega) ?_)
      obtain ⟨H2, e2⟩ : ∃ H2, H2 = (H'.push ⟨2, true, ints (List.replicate n 0)⟩).push ⟨28, true, [.slice (some ⟨H'.next, 0, some 1⟩) n n]⟩ := ⟨_, rfl⟩
      have n2 : H2.next = H'.next + 2 := by rw [e2]; rfl
      have s2 : ∀ i, i < H'.next → H2.row i = H'.row i := fun i hi => by rw [e2, AH.push_row, if_neg (by rw [AH.push_next]; omega), AH.push_row, if_neg (by omega)]
      have x2 : H2.row H'.next = some ⟨2, true, ints (List.replicate n 0)⟩ := by rw [e2, AH.push_row, if_neg (by rw [AH.push_next]; omega), AH.push_row, if_pos rfl]
      rw [← e2]
      clear e2
      refine appE_fr2 (hfr.same fun i _ hi => s2 i (by omega)) (m := n) (l := List.replicate n 0) ⟨by simp, .inr ⟨H'.next, by omega, by omega, rfl, x2⟩⟩ rfl (by decide) (by rw [List.length_replicate]; omega) hlh (by omega) ?_
      intro v' H3 n3 s3 f3
      try simp (disch := first | omega | (simp only [ints_length, List.length_replicate, List.length_set]; done) | (simp only [ints_length, List.length_replicate, List.length_set]; omega)) only [Sall,evalOp,init,binE,binI,unE,convE,okNil,builtE,gv,TD.isAgg,resV,↓reduceIte,Nat.reduceEqDiff,reduceCtorEq,Nat.reduceAdd,Nat.reduceMul,Nat.reduceLeDiff,quietOp,blindOp,Int.reduceEq,Int.reduceLT,Int.reduceLE,Nat.reduceLT,ti2,ti3,ti4,ti79,ti80,ti28,ti25,ti31,ti22,ti33,ti24,ti67,ti111,ti145,ti136,ti137,ti117,ti100, h6, h1, h2, w64]
      refine ⟨n - (a + 1), by omega, a + 1, v', lo, H2.next + 1, rfl, by omega, rfl, rfl, ⟨by omega, fun i hi => ?_⟩, ?_, by omega, by omega, by omega, ?_⟩
      · rw [s3 i (by omega) (by omega), s2 i (by omega), hup.row i hi]
      · rw [s3 _ (by omega) (by omega), s2 _ (by omega), hr1]
      · rw [replicate_snoc]; exact f3
    · have ha : a = n := by omega
      subst ha
      try simp (disch := first | omega | (simp only [ints_length, List.length_replicate, List.length_set]; done) | (simp only [ints_length, List.length_replicate, List.length_set]; omega)) only [Sall,evalOp,init,binE,binI,unE,convE,okNil,builtE,gv,TD.isAgg,resV,↓reduceIte,Nat.reduceEqDiff,reduceCtorEq,Nat.reduceAdd,Nat.reduceMul,Nat.reduceLeDiff,quietOp,blindOp,Int.reduceEq,Int.reduceLT,Int.reduceLE,Nat.reduceLT,ti2,ti3,ti4,ti79,ti80,ti28,ti25,ti31,ti22,ti33,ti24,ti67,ti111,ti145,ti136,ti137,ti117,ti100, h5, h1, h2]
      have hf0 : Fr2 1 28 2 lo hi H' o (cntMx a (svA a us R 0)) := by rw [show svA a us R 0 = [] from rfl, cntMx_nil]; exact hfr
      refine awp_loop (fun m t H2 => ∃ i : Nat, m = R.length - i ∧ i ≤ R.length ∧ t 7 = .int .i64 i ∧ t 5 = o ∧ t 1 = wv ∧ t 2 = .pointer (some ⟨H.next, 0, none⟩) ∧ Up H.next H H2 ∧ hi ≤ H2.next ∧ H2.row H.next = some ⟨117, true, [.int .i64 a, u]⟩ ∧ Fr2 1 28 2 lo hi H2 o (cntMx a (svA a us R i))) R.length ?_ ?_
      · refine ⟨0, by omega, by omega, ?_⟩
        try simp (disch := first | omega | (simp only [ints_length, List.length_replicate, List.length_set]; done) | (simp only [ints_length, List.length_replicate, List.length_set]; omega)) only [Sall,evalOp,init,binE,binI,unE,convE,okNil,builtE,gv,TD.isAgg,resV,↓reduceIte,Nat.reduceEqDiff,reduceCtorEq,Nat.reduceAdd,Nat.reduceMul,Nat.reduceLeDiff,quietOp,blindOp,Int.reduceEq,Int.reduceLT,Int.reduceLE,Nat.reduceLT,ti2,ti3,ti4,ti79,ti80,ti28,ti25,ti31,ti22,ti33,ti24,ti67,ti111,ti145,ti136,ti137,ti117,ti100, Int.natCast_zero, h5, h1, h2]
        exact ⟨hup, hhi, hr1, hf0⟩
      · rintro m t H2 ⟨i, hm, hik, h7, h5, h1, h2, hup2, hn2, hr2, hf2⟩
        have hu2 := (hu.same (hup2.le hs).row).len
        try simp (disch := first | omega | (simp only [ints_length, List.length_replicate, List.length_set]; done) | (simp only [ints_length, List.length_replicate, List.length_set]; omega)) only [Sall,evalOp,init,binE,binI,unE,convE,okNil,builtE,gv,TD.isAgg,resV,↓reduceIte,Nat.reduceEqDiff,reduceCtorEq,Nat.reduceAdd,Nat.reduceMul,Nat.reduceLeDiff,quietOp,blindOp,Int.reduceEq,Int.reduceLT,Int.reduceLE,Nat.reduceLT,ti2,ti3,ti4,ti79,ti80,ti28,ti25,ti31,ti22,ti33,ti24,ti67,ti111,ti145,ti136,ti137,ti117,ti100, h7, h2, hr2, builtE, hu2]
        refine condC_dec (fun hh => ?_) (fun hh => ?_)
        · obtain ⟨xi, xo, xuu, xc, xr, y, my, ex, hxr, hy, hsx, hok⟩ := hu.get (j := i) (by omega)
          have hxr' : H2.row xi = some xr := (hup2.le hs).row _ _ hxr
          obtain ⟨hl16, hin⟩ := hR.2 i (by omega)
          have hl4 := hR4 i (by omega)
          have hmm := hsx.lenK1
          have hevS := svA_succ a us R i
          have hI0 : (svA a us R i).length ≤ 2000 := by
            have := svA_length (n := a) (ws := us) (fun i hi => (hR.2 i hi).1) i (by omega)
            have h2 : i * (16 * us.length) ≤ 20 * 64 := Nat.mul_le_mul (by have := hR.1; omega) (by omega)
            omega
          revert hsx hl16 hin hl4 hmm hevS
          generalize R.getD i [] = l
          intro hsx hl16 hin hl4 hmm hevS
          subst hmm
          have hold : ∀ {H3 : AH}, Up H.next H H3 → Rd 1 H3 y l.length l := fun hup3 => hsx.same (hup3.le hs).row
          try simp (disch := first | omega | (simp only [ints_length, List.length_replicate, List.length_set]; done) | (simp only [ints_length, List.length_replicate, List.length_set]; omega)) only [Sall,evalOp,init,binE,binI,unE,convE,okNil,builtE,gv,TD.isAgg,resV,↓reduceIte,Nat.reduceEqDiff,reduceCtorEq,Nat.reduceAdd,Nat.reduceMul,Nat.reduceLeDiff,quietOp,blindOp,Int.reduceEq,Int.reduceLT,Int.reduceLE,Nat.reduceLT,ti2,ti3,ti4,ti79,ti80,ti28,ti25,ti31,ti22,ti33,ti24,ti67,ti111,ti145,ti136,ti137,ti117,ti100, h7, h5, h1, h2, hr2, ex, hxr', hy, hok]
          (repeat refine And.intro (by omega) ?_)
          refine awp_loop (fun m t H3 => ∃ k : Nat, m = l.length - k ∧ k ≤ l.length ∧ t 9 = .int .i64 k ∧ t 8 = y ∧ t 7 = .int .i64 i ∧ t 5 = o ∧ t 1 = wv ∧ t 2 = .pointer (some ⟨H.next, 0, none⟩) ∧ Up H.next H H3 ∧ hi ≤ H3.next ∧ H3.row H.next = some ⟨117, true, [.int .i64 a, u]⟩ ∧ Fr2 1 28 2 lo hi H3 o (cntMx a (svA a us R i ++ svR a us l k))) l.length ?_ ?_
          · refine ⟨0, by omega, by omega, ?_⟩
            try simp (disch := first | omega | (simp only [ints_length, List.length_replicate, List.length_set]; done) | (simp only [ints_length, List.length_replicate, List.length_set]; omega)) only [Sall,evalOp,init,binE,binI,unE,convE,okNil,builtE,gv,TD.isAgg,resV,↓reduceIte,Nat.reduceEqDiff,reduceCtorEq,Nat.reduceAdd,Nat.reduceMul,Nat.reduceLeDiff,quietOp,blindOp,Int.reduceEq,Int.reduceLT,Int.reduceLE,Nat.reduceLT,ti2,ti3,ti4,ti79,ti80,ti28,ti25,ti31,ti22,ti33,ti24,ti67,ti111,ti145,ti136,ti137,ti117,ti100, Int.natCast_zero, h7, h5, h1, h2]
            refine ⟨hup2, hn2, ?_, ?_⟩
            · exact hr2
            · rw [show svR a us l 0 = [] from rfl, List.append_nil]; exact hf2
          · rintro m t H3 ⟨k, hm, hk, h9, h8, h7, h5, h1, h2, hup3, hn3, hr3, hf3⟩
            have hl3 := (hold hup3).len
            try simp (disch := first | omega | (simp only [ints_length, List.length_replicate, List.length_set]; done) | (simp only [ints_length, List.length_replicate, List.length_set]; omega)) only [Sall,evalOp,init,binE,binI,unE,convE,okNil,builtE,gv,TD.isAgg,resV,↓reduceIte,Nat.reduceEqDiff,reduceCtorEq,Nat.reduceAdd,Nat.reduceMul,Nat.reduceLeDiff,quietOp,blindOp,Int.reduceEq,Int.reduceLT,Int.reduceLE,Nat.reduceLT,ti2,ti3,ti4,ti79,ti80,ti28,ti25,ti31,ti22,ti33,ti24,ti67,ti111,ti145,ti136,ti137,ti117,ti100, h9, h8, builtE, hl3]
            refine condC_dec (fun hhh => ?_) (fun hhh => ?_)
            · obtain ⟨yi, yo, yu, yc, yr, ey, hyr, _, hyg, _⟩ := (hold (Up.refl H.next H)).get (by omega)
              have hyi := hs _ _ hyr
              have hyr3 : H3.row yi = some yr := by rw [hup3.row _ hyi]; exact hyr
              have mem : ∀ j, j < l.length → 0 ≤ l.getD j 0 ∧ l.getD j 0 < (a : Int) := fun j hj => hin _ (by rw [List.getD_eq_getElem?_getD, List.getElem?_eq_getElem hj]; exact List.getElem_mem _)
              have m1 := mem k (by omega)
              have g1 := hyg k (by omega)
              obtain ⟨p, ep⟩ : ∃ p : Nat, l.getD k 0 = (p : Int) := ⟨(l.getD k 0).toNat, by omega⟩
              rw [ep] at g1 m1
              have hsq0 := cntMx_sq a (svA a us R i ++ svR a us l k)
              have hrow0 := hsq0.2 p (by omega)
              obtain ⟨mi, mvs, i6, eo, q1, q2, q3, q4, q5, q6, q7, q8, q9⟩ := hf3.setF (j := p) (by rw [hsq0.1]; omega) (by omega)
              rw [hsq0.1] at eo
              rw [hrow0] at q4
              try simp (disch := first | omega | (simp only [ints_length, List.length_replicate, List.length_set]; done) | (simp only [ints_length, List.length_replicate, List.length_set]; omega)) only [Sall,evalOp,init,binE,binI,unE,convE,okNil,builtE,gv,TD.isAgg,resV,↓reduceIte,Nat.reduceEqDiff,reduceCtorEq,Nat.reduceAdd,Nat.reduceMul,Nat.reduceLeDiff,quietOp,blindOp,Int.reduceEq,Int.reduceLT,Int.reduceLE,Nat.reduceLT,ti2,ti3,ti4,ti79,ti80,ti28,ti25,ti31,ti22,ti33,ti24,ti67,ti111,ti145,ti136,ti137,ti117,ti100, h9, h8, h7, h5, h1, h2, ey, hyr3, g1, eo, q3, q4]
              (repeat refine And.intro (by omega) ?_)
              refine awp_loop (fun m t H4 => ∃ d : Nat, m = us.length - d ∧ d ≤ us.length ∧ t 11 = .int .i64 d ∧ t 10 = .slice (some ⟨i6, 0, some 1⟩) a a ∧ t 9 = .int .i64 k ∧ t 8 = y ∧ t 7 = .int .i64 i ∧ t 5 = o ∧ t 1 = wv ∧ t 2 = .pointer (some ⟨H.next, 0, none⟩) ∧ Up H.next H H4 ∧ hi ≤ H4.next ∧ H4.row H.next = some ⟨117, true, [.int .i64 a, u]⟩ ∧ H4.row mi = some ⟨28, true, mvs⟩ ∧ Fr2 1 28 2 lo hi H4 o (cntMx a (svA a us R i ++ svR a us l k ++ svW a l k (us.take d)))) us.length ?_ ?_
              · refine ⟨0, by omega, by omega, ?_⟩
                try simp (disch := first | omega | (simp only [ints_length, List.length_replicate, List.length_set]; done) | (simp only [ints_length, List.length_replicate, List.length_set]; omega)) only [Sall,evalOp,init,binE,binI,unE,convE,okNil,builtE,gv,TD.isAgg,resV,↓reduceIte,Nat.reduceEqDiff,reduceCtorEq,Nat.reduceAdd,Nat.reduceMul,Nat.reduceLeDiff,quietOp,blindOp,Int.reduceEq,Int.reduceLT,Int.reduceLE,Nat.reduceLT,ti2,ti3,ti4,ti79,ti80,ti28,ti25,ti31,ti22,ti33,ti24,ti67,ti111,ti145,ti136,ti137,ti117,ti100, Int.natCast_zero, h9, h8, h7, h5, h1, h2]
                refine ⟨hup3, hn3, hr3, q3, ?_⟩
                rw [List.take_zero, show svW a l k [] = [] from rfl, List.append_nil]; exact hf3
              · rintro m t H4 ⟨d, hm, hd, h11, h10, h9, h8, h7, h5, h1, h2, hup4, hn4, hr4, hmi4, hf4⟩
                have hw4 := hw.same (hup4.le hs).row
                try simp (disch := first | omega | (simp only [ints_length, List.length_replicate, List.length_set]; done) | (simp only [ints_length, List.length_replicate, List.length_set]; omega)) only [Sall,evalOp,init,binE,binI,unE,convE,okNil,builtE,gv,TD.isAgg,resV,↓reduceIte,Nat.reduceEqDiff,reduceCtorEq,Nat.reduceAdd,Nat.reduceMul,Nat.reduceLeDiff,quietOp,blindOp,Int.reduceEq,Int.reduceLT,Int.reduceLE,Nat.reduceLT,ti2,ti3,ti4,ti79,ti80,ti28,ti25,ti31,ti22,ti33,ti24,ti67,ti111,ti145,ti136,ti137,ti117,ti100, h11, h1, builtE, hw4.len]
                refine condC_dec (fun hh4 => ?_) (fun hh4 => ?_)
                · obtain ⟨wi, wo, wu, wc, wr, ew, hwr, _, hwg, _⟩ := hw4.get (by omega)
                  have hwa := hwg d (by omega)
                  have hwd : (us.map fun (w : Nat) => (w : Int)).getD d 0 = ((us.getD d 0 : Nat) : Int) := by
                    rw [List.getD_eq_getElem?_getD, List.getElem?_map, List.getD_eq_getElem?_getD, List.getElem?_eq_getElem (by omega)]; rfl
                  rw [hwd] at hwa
                  have w4 := hus (us.getD d 0) (by rw [List.getD_eq_getElem?_getD, List.getElem?_eq_getElem (by omega)]; exact List.getElem_mem _)
                  have hsn := take_snoc us 0 d (by omega)
                  revert hwa w4 hsn
                  generalize us.getD d 0 = w
                  intro hwa w4 hsn
                  have hyr4 : H4.row yi = some yr := by rw [hup4.row _ hyi]; exact hyr
                  have x4 := xor_lt4 (a := k % 4) (by omega) w4
                  have hxor := xor4' (a := k % 4) (by omega) w4
                  obtain ⟨q, hq⟩ : ∃ q, q = k / 4 * 4 + (k % 4 ^^^ w) := ⟨_, rfl⟩
                  have hql : q < l.length := by omega
                  have m2 := mem q hql
                  have g2 := hyg q (by omega)
                  have hsv := svW_snoc a l k (us.take d) w
                  rw [← hsn, ← hq, ep, Int.toNat_natCast] at hsv
                  obtain ⟨z, ez⟩ : ∃ z : Nat, l.getD q 0 = (z : Int) := ⟨(l.getD q 0).toNat, by omega⟩
                  rw [ez] at g2 m2 hsv
                  rw [Int.toNat_natCast] at hsv
                  have hq1 : Int.tdiv (k : Int) 4 = ((k / 4 : Nat) : Int) := rfl
                  have hq2 : Int.tmod (k : Int) 4 = ((k % 4 : Nat) : Int) := rfl
                  have hq3 : (((k / 4 : Nat) : Int) * 4 + ((k % 4 ^^^ w : Nat) : Int)).toNat = q := by omega
                  have hlenI : (svA a us R i ++ svR a us l k ++ svW a l k (us.take d)).length ≤ 10000 := by
                    rw [List.length_append, List.length_append, svR_length, svW_length, List.length_take]
                    have h1 : k * us.length ≤ 16 * 4 := Nat.mul_le_mul (by omega) (by omega)
                    omega
                  have hevX : svA a us R i ++ svR a us l k ++ svW a l k (us.take (d + 1)) = (svA a us R i ++ svR a us l k ++ svW a l k (us.take d)) ++ [ixN a p z] := by rw [hsv]; simp
                  obtain ⟨I, eI⟩ : ∃ I, I = svA a us R i ++ svR a us l k ++ svW a l k (us.take d) := ⟨_, rfl⟩
                  rw [← eI] at hevX hlenI hf4
                  have hsq1 := cntMx_sq a I
                  have hinc1 := cntMx_inc a I p z (by omega) (by omega) (by omega)
                  have hrow1 := hsq1.2 p (by omega)
                  obtain ⟨mj, mvt, i7, eo', p1, p2, p3, p4, p5, p6, p7, p8, p9⟩ := hf4.setF (j := p) (by rw [hsq1.1]; omega) (by omega)
                  have hMl1 := hsq1.1
                  have p10 := p9 (incR ((cntMx a I).getD p []) (z : Int)) (incR_length _ _)
                  rw [hrow1] at p4
                  have emj : mi = mj := by
                    rw [eo] at eo'
                    injection eo' with e
                    injection e with e
                    injection e with e
                  subst emj
                  have emv : mvs = mvt := by
                    rw [hmi4] at p3
                    injection p3 with e
                    injection e
                  subst emv
                  have ei : i6 = i7 := by
                    rw [q4] at p4
                    injection p4 with e
                    injection e with e
                    injection e with e
                    injection e with e
                  subst ei
                  have ne2 : ¬ H.next = i6 := by omega
                  try simp (disch := first | omega | (simp only [ints_length, List.length_replicate, List.length_set]; done) | (simp only [ints_length, List.length_replicate, List.length_set]; omega)) only [Sall,evalOp,init,binE,binI,unE,convE,okNil,builtE,gv,TD.isAgg,resV,↓reduceIte,Nat.reduceEqDiff,reduceCtorEq,Nat.reduceAdd,Nat.reduceMul,Nat.reduceLeDiff,quietOp,blindOp,Int.reduceEq,Int.reduceLT,Int.reduceLE,Nat.reduceLT,ti2,ti3,ti4,ti79,ti80,ti28,ti25,ti31,ti22,ti33,ti24,ti67,ti111,ti145,ti136,ti137,ti117,ti100, h11, h10, h9, h8, h7, h5, h1, h2, ey, hyr4, g2, ew, hwr, hwa, hq1, hq2, hxor, hq3, p8, Int.toNat_natCast, ints_get?, ints_set, w64]
                  (repeat refine And.intro (by omega) ?_)
                  refine ⟨us.length - (d + 1), by omega, d + 1, rfl, by omega, by omega, hup4.set (by omega) _, hn4, by rw [if_neg ne2]; exact hr4, by rw [if_neg p7]; exact hmi4, ?_⟩
                  rw [hevX, ← hinc1]
                  exact p10
                · have hd2 : d = us.length := by omega
                  subst hd2
                  rw [List.take_length] at hf4
                  try simp (disch := first | omega | (simp only [ints_length, List.length_replicate, List.length_set]; done) | (simp only [ints_length, List.length_replicate, List.length_set]; omega)) only [Sall,evalOp,init,binE,binI,unE,convE,okNil,builtE,gv,TD.isAgg,resV,↓reduceIte,Nat.reduceEqDiff,reduceCtorEq,Nat.reduceAdd,Nat.reduceMul,Nat.reduceLeDiff,quietOp,blindOp,Int.reduceEq,Int.reduceLT,Int.reduceLE,Nat.reduceLT,ti2,ti3,ti4,ti79,ti80,ti28,ti25,ti31,ti22,ti33,ti24,ti67,ti111,ti145,ti136,ti137,ti117,ti100, h9, h8, h7, h5, h1, h2, w64]
                  refine ⟨l.length - (k + 1), by omega, k + 1, rfl, by omega, by omega, hup4, hn4, hr4, ?_⟩
                  rw [svR_succ, ← List.append_assoc]; exact hf4
            · have hk2 : k = l.length := by omega
              subst hk2
              try simp (disch := first | omega | (simp only [ints_length, List.length_replicate, List.length_set]; done) | (simp only [ints_length, List.length_replicate, List.length_set]; omega)) only [Sall,evalOp,init,binE,binI,unE,convE,okNil,builtE,gv,TD.isAgg,resV,↓reduceIte,Nat.reduceEqDiff,reduceCtorEq,Nat.reduceAdd,Nat.reduceMul,Nat.reduceLeDiff,quietOp,blindOp,Int.reduceEq,Int.reduceLT,Int.reduceLE,Nat.reduceLT,ti2,ti3,ti4,ti79,ti80,ti28,ti25,ti31,ti22,ti33,ti24,ti67,ti111,ti145,ti136,ti137,ti117,ti100, h7, h5, h1, h2, w64]
              refine ⟨R.length - (i + 1), by omega, i + 1, rfl, by omega, by omega, hup3, hn3, hr3, ?_⟩
              rw [hevS]; exact hf3
        · have hi2 : i = R.length := by omega
          subst hi2
          try simp (disch := first | omega | (simp only [ints_length, List.length_replicate, List.length_set]; done) | (simp only [ints_length, List.length_replicate, List.length_set]; omega)) only [Sall,evalOp,init,binE,binI,unE,convE,okNil,builtE,gv,TD.isAgg,resV,↓reduceIte,Nat.reduceEqDiff,reduceCtorEq,Nat.reduceAdd,Nat.reduceMul,Nat.reduceLeDiff,quietOp,blindOp,Int.reduceEq,Int.reduceLT,Int.reduceLE,Nat.reduceLT,ti2,ti3,ti4,ti79,ti80,ti28,ti25,ti31,ti22,ti33,ti24,ti67,ti111,ti145,ti136,ti137,ti117,ti100, h5]
          exact ⟨hup2, hf2.wide (by omega) hn2⟩

theorem l06Each_c (v : Value) (n : Nat) (M : List (List Int)) (c : Int) (H : AH) (hv : Rd2 1 H v M) (hM : SqM n M) (hn : n ≤ 1024) :
    ACalls Try.prog 170 [v, .int .i64 c] H (is (.bool (eachB (fun x => x == c) M)) H) := by
  refine acalls_up rfl (acalls_of_awp [.tmp 4] Try.func170 (by kernel_rfl) rfl rfl (Nat.le_of_ble_eq_true rfl) (by kernel_rfl) ?_)
  have hlen := hv.len
  rw [hM.1] at hlen
  try simp (disch := first | omega | (simp only [ints_length, List.length_replicate, List.length_set]; done) | (simp only [ints_length, List.length_replicate, List.length_set]; omega)) only [Sall,evalOp,init,binE,binI,unE,convE,okNil,builtE,gv,TD.isAgg,resV,↓reduceIte,Nat.reduceEqDiff,reduceCtorEq,Nat.reduceAdd,Nat.reduceMul,Nat.reduceLeDiff,quietOp,blindOp,Int.reduceEq,Int.reduceLT,Int.reduceLE,Nat.reduceLT,ti2,ti3,ti4,ti79,ti80,ti28,ti25,ti31,ti22,ti33,ti24,ti67,ti111,ti145,ti136,ti137,ti117,ti100, true_and]
  refine awp_loop (fun m t H' => ∃ a : Nat, m = n - a ∧ a ≤ n ∧ t 5 = .int .i64 a ∧ t 0 = v ∧ t 1 = .int .i64 c ∧ H' = H ∧ (∀ i, i < a → ∀ j, j < n → eachAt (fun x => x == c) M i j = true)) n ?_ ?_
  · refine ⟨0, by omega, by omega, ?_⟩
    try simp (disch := first | omega | (simp only [ints_length, List.length_replicate, List.length_set]; done) | (simp only [ints_length, List.length_replicate, List.length_set]; omega)) only [Sall,evalOp,init,binE,binI,unE,convE,okNil,builtE,gv,TD.isAgg,resV,↓reduceIte,Nat.reduceEqDiff,reduceCtorEq,Nat.reduceAdd,Nat.reduceMul,Nat.reduceLeDiff,quietOp,blindOp,Int.reduceEq,Int.reduceLT,Int.reduceLE,Nat.reduceLT,ti2,ti3,ti4,ti79,ti80,ti28,ti25,ti31,ti22,ti33,ti24,ti67,ti111,ti145,ti136,ti137,ti117,ti100, Int.natCast_zero, Nat.not_lt_zero, false_implies]
  · rintro m t H' ⟨a, hm, han, h5, h0, h1, rfl, hall⟩
    try simp (disch := first | omega | (simp only [ints_length, List.length_replicate, List.length_set]; done) | (simp only [ints_length, List.length_replicate, List.length_set]; omega)) only [Sall,evalOp,init,binE,binI,unE,convE,okNil,builtE,gv,TD.isAgg,resV,↓reduceIte,Nat.reduceEqDiff,reduceCtorEq,Nat.reduceAdd,Nat.reduceMul,Nat.reduceLeDiff,quietOp,blindOp,Int.reduceEq,Int.reduceLT,Int.reduceLE,Nat.reduceLT,ti2,ti3,ti4,ti79,ti80,ti28,ti25,ti31,ti22,ti33,ti24,ti67,ti111,ti145,ti136,ti137,ti117,ti100, h5, h0, builtE, hlen]
    refine condC_dec (fun h => ?_) (fun h => ?_)
    · try simp (disch := first | omega | (simp only [ints_length, List.length_replicate, List.length_set]; done) | (simp only [ints_length, List.length_replicate, List.length_set]; omega)) only [Sall,evalOp,init,binE,binI,unE,convE,okNil,builtE,gv,TD.isAgg,resV,↓reduceIte,Nat.reduceEqDiff,reduceCtorEq,Nat.reduceAdd,Nat.reduceMul,Nat.reduceLeDiff,quietOp,blindOp,Int.reduceEq,Int.reduceLT,Int.reduceLE,Nat.reduceLT,ti2,ti3,ti4,ti79,ti80,ti28,ti25,ti31,ti22,ti33,ti24,ti67,ti111,ti145,ti136,ti137,ti117,ti100, h5, h0, h1]
      refine awp_loop (fun z t H7 => ∃ b : Nat, z = n - b ∧ b ≤ n ∧ t 6 = .int .i64 b ∧ t 5 = .int .i64 a ∧ t 0 = v ∧ t 1 = .int .i64 c ∧ H7 = H' ∧ (∀ j, j < b → eachAt (fun x => x == c) M a j = true)) n ?_ ?_
      · refine ⟨0, by omega, by omega, ?_⟩
        try simp (disch := first | omega | (simp only [ints_length, List.length_replicate, List.length_set]; done) | (simp only [ints_length, List.length_replicate, List.length_set]; omega)) only [Sall,evalOp,init,binE,binI,unE,convE,okNil,builtE,gv,TD.isAgg,resV,↓reduceIte,Nat.reduceEqDiff,reduceCtorEq,Nat.reduceAdd,Nat.reduceMul,Nat.reduceLeDiff,quietOp,blindOp,Int.reduceEq,Int.reduceLT,Int.reduceLE,Nat.reduceLT,ti2,ti3,ti4,ti79,ti80,ti28,ti25,ti31,ti22,ti33,ti24,ti67,ti111,ti145,ti136,ti137,ti117,ti100, Int.natCast_zero, Nat.not_lt_zero, false_implies, h5, h0, h1]
      · rintro z t H7 ⟨b, hz, hbn, h6, h5, h0, h1, rfl, hin⟩
        try simp (disch := first | omega | (simp only [ints_length, List.length_replicate, List.length_set]; done) | (simp only [ints_length, List.length_replicate, List.length_set]; omega)) only [Sall,evalOp,init,binE,binI,unE,convE,okNil,builtE,gv,TD.isAgg,resV,↓reduceIte,Nat.reduceEqDiff,reduceCtorEq,Nat.reduceAdd,Nat.reduceMul,Nat.reduceLeDiff,quietOp,blindOp,Int.reduceEq,Int.reduceLT,Int.reduceLE,Nat.reduceLT,ti2,ti3,ti4,ti79,ti80,ti28,ti25,ti31,ti22,ti33,ti24,ti67,ti111,ti145,ti136,ti137,ti117,ti100, h6, h0, builtE, hlen]
        refine condC_dec (fun hh => ?_) (fun hh => ?_)
        · have hMl := hM.1
          by_cases hab : a = b
          · have e2 : ((a : Int) != (b : Int)) = false := by rw [hab]; exact bne_self_eq_false _
            have hbal : eachAt (fun x => x == c) M a b = true := by unfold eachAt; rw [decide_eq_true hab]; rfl
            try simp (disch := first | omega | (simp only [ints_length, List.length_replicate, List.length_set]; done) | (simp only [ints_length, List.length_replicate, List.length_set]; omega)) only [Sall,evalOp,init,binE,binI,unE,convE,okNil,builtE,gv,TD.isAgg,resV,↓reduceIte,Nat.reduceEqDiff,reduceCtorEq,Nat.reduceAdd,Nat.reduceMul,Nat.reduceLeDiff,quietOp,blindOp,Int.reduceEq,Int.reduceLT,Int.reduceLE,Nat.reduceLT,ti2,ti3,ti4,ti79,ti80,ti28,ti25,ti31,ti22,ti33,ti24,ti67,ti111,ti145,ti136,ti137,ti117,ti100, h6, h5, h0, h1, e2, w64]
            refine ⟨n - (b + 1), by omega, b + 1, rfl, by omega, by omega, fun j hj => ?_⟩
            by_cases e : j = b
            · rw [e]; exact hbal
            · exact hin j (by omega)
          · have e2 : ((a : Int) != (b : Int)) = true := by rw [bne_iff_ne]; omega
            obtain ⟨i, o, u, cc, r, y, my, ev, hr, hy, hsx, hok⟩ := hv.get (j := a) (by rw [hM.1]; omega)
            have hmy := hsx.lenK1
            have hrow := hM.2 a (by omega)
            rw [hrow] at hmy
            subst hmy
            obtain ⟨i7, o7, u7, c7, r7, ey, hr7, hc7, hs7, hg7⟩ := hsx.get (by omega)
            have g1 := hs7 b (by omega)
            rw [hMl] at ev
            by_cases hx1 : (M.getD a []).getD b 0 = c
            · have e3 : ((M.getD a []).getD b 0 != c) = false := by rw [hx1]; exact bne_self_eq_false _
              have hbal : eachAt (fun x => x == c) M a b = true := by unfold eachAt; simp only [hx1, beq_self_eq_true, Bool.or_true]
              try simp (disch := first | omega | (simp only [ints_length, List.length_replicate, List.length_set]; done) | (simp only [ints_length, List.length_replicate, List.length_set]; omega)) only [Sall,evalOp,init,binE,binI,unE,convE,okNil,builtE,gv,TD.isAgg,resV,↓reduceIte,Nat.reduceEqDiff,reduceCtorEq,Nat.reduceAdd,Nat.reduceMul,Nat.reduceLeDiff,quietOp,blindOp,Int.reduceEq,Int.reduceLT,Int.reduceLE,Nat.reduceLT,ti2,ti3,ti4,ti79,ti80,ti28,ti25,ti31,ti22,ti33,ti24,ti67,ti111,ti145,ti136,ti137,ti117,ti100, h6, h5, h0, h1, ev, hr, hy, hok, ey, hr7, g1, e2, e3, w64]
              (repeat refine And.intro (by omega) ?_)
              refine ⟨my - (b + 1), by omega, b + 1, rfl, by omega, by omega, fun j hj => ?_⟩
              by_cases e : j = b
              · rw [e]; exact hbal
              · exact hin j (by omega)
            · have e3 : ((M.getD a []).getD b 0 != c) = true := bne_iff_ne.2 hx1
              have hbal : eachAt (fun x => x == c) M a b = false := by
                have e4 : ((M.getD a []).getD b 0 == c) = false := by rw [beq_eq_false_iff_ne]; exact hx1
                unfold eachAt
                rw [decide_eq_false hab, Bool.false_or]
                exact e4
              try simp (disch := first | omega | (simp only [ints_length, List.length_replicate, List.length_set]; done) | (simp only [ints_length, List.length_replicate, List.length_set]; omega)) only [Sall,evalOp,init,binE,binI,unE,convE,okNil,builtE,gv,TD.isAgg,resV,↓reduceIte,Nat.reduceEqDiff,reduceCtorEq,Nat.reduceAdd,Nat.reduceMul,Nat.reduceLeDiff,quietOp,blindOp,Int.reduceEq,Int.reduceLT,Int.reduceLE,Nat.reduceLT,ti2,ti3,ti4,ti79,ti80,ti28,ti25,ti31,ti22,ti33,ti24,ti67,ti111,ti145,ti136,ti137,ti117,ti100, h6, h5, h0, h1, ev, hr, hy, hok, ey, hr7, g1, e2, e3, w64]
              (repeat refine And.intro (by omega) ?_)
              rw [eachB_bad (i := a) (j := b) (by rw [hMl]; omega) (by omega) hbal]
              exact ⟨rfl, Up.refl _ _⟩
        · try simp (disch := first | omega | (simp only [ints_length, List.length_replicate, List.length_set]; done) | (simp only [ints_length, List.length_replicate, List.length_set]; omega)) only [Sall,evalOp,init,binE,binI,unE,convE,okNil,builtE,gv,TD.isAgg,resV,↓reduceIte,Nat.reduceEqDiff,reduceCtorEq,Nat.reduceAdd,Nat.reduceMul,Nat.reduceLeDiff,quietOp,blindOp,Int.reduceEq,Int.reduceLT,Int.reduceLE,Nat.reduceLT,ti2,ti3,ti4,ti79,ti80,ti28,ti25,ti31,ti22,ti33,ti24,ti67,ti111,ti145,ti136,ti137,ti117,ti100, h5, h0, h1, w64]
          refine ⟨n - (a + 1), by omega, a + 1, rfl, by omega, by omega, fun i hi j hj => ?_⟩
          by_cases e : i = a
          · rw [e]; exact hin j (by omega)
          · exact hall i (by omega) j hj
    · try simp (disch := first | omega | (simp only [ints_length, List.length_replicate, List.length_set]; done) | (simp only [ints_length, List.length_replicate, List.length_set]; omega)) only [Sall,evalOp,init,binE,binI,unE,convE,okNil,builtE,gv,TD.isAgg,resV,↓reduceIte,Nat.reduceEqDiff,reduceCtorEq,Nat.reduceAdd,Nat.reduceMul,Nat.reduceLeDiff,quietOp,blindOp,Int.reduceEq,Int.reduceLT,Int.reduceLE,Nat.reduceLT,ti2,ti3,ti4,ti79,ti80,ti28,ti25,ti31,ti22,ti33,ti24,ti67,ti111,ti145,ti136,ti137,ti117,ti100, true_and]
      rw [eachB_good (fun i hi j hj => hall i (by rw [hM.1] at hi; omega) j (by rw [hM.1] at hi; rw [hM.2 i hi] at hj; exact hj))]
      exact ⟨rfl, Up.refl _ _⟩
end Go.Proofs.Ytbmpkihggipciaa.A
end

section
set_option linter.unusedSimpArgs false
set_option linter.unusedVariables false
namespace Go.Abs
open Go Go.RowKit

def headIs (cs : List Nat) (i : Nat) : Bool := match cs with | c :: _ => i == c | [] => false

/-- cs one after the other, fs in any order, then post. -/
def okPool (ops : Array Oper) (post : OT) : Nat → List Nat → List Nat → Array Bool → Bool
  | 0, cs, fs, listed => cs.isEmpty && fs.isEmpty && okOT ops post listed
  | n + 1, cs, fs, listed =>
    if cs.isEmpty && fs.isEmpty then okOT ops post listed else
    !(Region.ready .any ops listed).isEmpty && (Region.ready .any ops listed).all (fun i => headIs cs i || fs.contains i) &&
    (match cs with | c :: cs' => (!(Region.ready .any ops listed).contains c) || okPool ops post n cs' fs (listed.setIfInBounds c true) | [] => true) &&
    fs.all fun a => (!(Region.ready .any ops listed).contains a) || okPool ops post n cs (fs.erase a) (listed.setIfInBounds a true)

def okPre (ops : Array Oper) (post : OT) (cs fs : List Nat) : List Nat → Array Bool → Bool
  | [], listed => okPool ops post (cs.length + fs.length) cs fs listed
  | i :: is, listed =>
    (match ops[i]? with
     | some o => if quietOp o.op = true then (Region.ready .any ops listed).contains i && Region.free .any ops listed i else Region.ready .any ops listed == [i]
     | none => false) && okPre ops post cs fs is (listed.setIfInBounds i true)

structure PoolJ (P : Program) (ops : Array Oper) (Q : T → AH → Prop) (post : OT) (J : List Nat → List Nat → T → AH → Prop) : Prop where
  call : ∀ c cs fs t H, J (c :: cs) fs t H → stepI P ops (J cs fs) c (ops.toList[c]?) t H
  free : ∀ a cs fs t H, a ∈ fs → J cs fs t H → stepI P ops (J cs (fs.erase a)) a (ops.toList[a]?) t H
  done : ∀ t H, J [] [] t H → awpT P ops Q post t H

theorem AAny_pool {P : Program} {ops : Array Oper} {Q : T → AH → Prop} {post : OT} {J : List Nat → List Nat → T → AH → Prop} (hJ : PoolJ P ops Q post J) : ∀ (n : Nat) (cs fs : List Nat) (listed : Array Bool) (t : T) (H : AH) (f : Nat), n + post.depth ≤ f → Closed ops listed → okPool ops post n cs fs listed = true → J cs fs t H → AAny P ops Q f listed t H
  | 0, cs, fs, listed, t, H, f, hf, hc, hok, h => by
    simp only [okPool, Bool.and_eq_true, List.isEmpty_iff] at hok
    obtain ⟨⟨rfl, rfl⟩, h3⟩ := hok
    exact AAny_tree post listed t H f (by omega) hc h3 (hJ.done t H h)
  | n + 1, cs, fs, listed, t, H, 0, hf, hc, hok, h => by omega
  | n + 1, cs, fs, listed, t, H, f + 1, hf, hc, hok, h => by
    unfold okPool at hok
    split at hok
    · rename_i he
      simp only [Bool.and_eq_true, List.isEmpty_iff] at he
      obtain ⟨rfl, rfl⟩ := he
      exact AAny_tree post listed t H (f + 1) (by omega) hc hok (hJ.done t H h)
    · simp only [Bool.and_eq_true] at hok
      obtain ⟨⟨⟨h1, h2⟩, h3⟩, h4⟩ := hok
      refine ⟨fun h0 => (by rw [h0] at h1; simp at h1), fun i hi => ?_⟩
      have hci : (Region.ready .any ops listed).contains i = true := by simpa using hi
      have h5 := List.all_eq_true.1 h2 i hi
      rw [Bool.or_eq_true] at h5
      rcases h5 with h5 | h5
      · cases cs with
        | nil => simp [headIs] at h5
        | cons c cs' =>
          have e : i = c := by simpa [headIs] using h5
          subst e
          simp only [hci, Bool.not_true, Bool.false_or] at h3
          exact aStep_mono (stepI_s (hJ.call i cs' fs t H h)) fun t' H' hk => ⟨hk.1, AAny_pool hJ n cs' fs _ t' H' f (by omega) (hc.set hi) h3 hk.2⟩
      · have hm : i ∈ fs := List.contains_iff_mem.1 h5
        have h6 := List.all_eq_true.1 h4 i hm
        simp only [hci, Bool.not_true, Bool.false_or] at h6
        exact aStep_mono (stepI_s (hJ.free i cs fs t H hm h)) fun t' H' hk => ⟨hk.1, AAny_pool hJ n cs (fs.erase i) _ t' H' f (by omega) (hc.set hi) h6 hk.2⟩

theorem AAny_pre {P : Program} {ops : Array Oper} {Q : T → AH → Prop} {post : OT} {J : List Nat → List Nat → T → AH → Prop} (hJ : PoolJ P ops Q post J) (cs fs : List Nat) : ∀ (is : List Nat) (listed : Array Bool) (t : T) (H : AH) (f : Nat), is.length + (cs.length + fs.length + post.depth) ≤ f → Closed ops listed → okPre ops post cs fs is listed = true → awpI P ops (J cs fs) is t H → AAny P ops Q f listed t H
  | [], listed, t, H, f, hf, hc, hok, h => AAny_pool hJ _ cs fs listed t H f (by simpa using hf) hc hok h
  | i :: is, listed, t, H, 0, hf, hc, hok, h => by simp at hf
  | i :: is, listed, t, H, f + 1, hf, hc, hok, h => by
    simp only [okPre, Bool.and_eq_true] at hok
    simp only [List.length_cons] at hf
    obtain ⟨h1, h2⟩ := hok
    unfold awpI at h
    cases ho : ops[i]? with
    | none => simp [ho] at h1
    | some o =>
      simp only [ho] at h1
      split at h1
      · rename_i hq
        simp only [Bool.and_eq_true] at h1
        obtain ⟨hr, hfr⟩ := h1
        have hr' : i ∈ Region.ready .any ops listed := by simpa using hr
        obtain ⟨v, hy, hk⟩ := aStep_quiet ho hq (stepI_s h)
        exact AAny_first ho hq f listed t H hc (Region.free_spec ho hfr) hr' hy (AAny_pre hJ cs fs is _ _ H f (by omega) (hc.set hr') h2 hk.2)
      · have hr : Region.ready .any ops listed = [i] := by simpa using h1
        refine ⟨fun h0 => (by rw [hr] at h0; cases h0), fun j hj => ?_⟩
        have hji : j = i := by rw [hr] at hj; simpa using hj
        subst hji
        exact aStep_mono (stepI_s h) fun t' H' hk => ⟨hk.1, AAny_pre hJ cs fs is _ t' H' f (by omega) (hc.set hj) h2 hk.2⟩

theorem draw_pool {P : Program} {id : Nat} {ops : Array Oper} {Q : Exit → T → AH → Prop} {t : T} {H : AH} (is cs fs : List Nat) (post : OT) (hm : P.follows .mixedOrders = true) (hok : okPre ops post cs fs is (Array.replicate ops.size false) = true) (hl : is.length + (cs.length + fs.length + post.depth) ≤ ops.size)
    (J : List Nat → List Nat → T → AH → Prop) (hJ : PoolJ P ops (Q .normal) post J) (h : awpI P ops (J cs fs) is t H) : awp P (.region id ops true) Q t H := by
  intro base ρ w tmps QC hS hd hQ
  have hA := AAny_pre hJ cs fs is _ t H ops.size hl ⟨by simp, fun j oj hj hl => by rw [getD_replicate_false'] at hl; cases hl⟩ hok h
  refine wp_region_any hm (AAny_ok ops.size _ t H ρ w.drew tmps hA ⟨hS.1.drew, hS.2.ext (ext_drew (base := base) (H := H) w)⟩ ?_ fun t' H' ρ' w' tmps' hq hs he hz => ?_)
  · intro o ho i hi
    have := List.all_eq_true.1 hd o ho
    simp only [hi, decide_eq_true_eq] at this
    exact this
  · exact hQ .normal t' H' ρ' w' tmps' hq hs ((ext_drew (base := base) (H := H) (ρ := ρ) w).trans he) hz
theorem ACalls.scf {P : Program} {f : FuncId} {args : List Value} {H : AH} {v0 : Value} {X : AH → Prop} (h : ACalls P f args H (fun v H' => v = v0 ∧ X H')) : ACalls P f args H (fun v H' => v = v0 ∧ X H' ∧ Sc H') :=
  h.sc.mono fun _ _ h => ⟨h.1.1, h.1.2, h.2⟩
end Go.Abs
end

section
set_option linter.unusedSimpArgs false
set_option linter.unusedVariables false
set_option maxRecDepth 100000
set_option maxHeartbeats 2000000
namespace Go.Proofs.Ytbmpkihggipciaa.A
open Go Go.Abs Go.RowKit

theorem l06Whist_c (n : Nat) (hn : 1 ≤ n ∧ n ≤ 16) (u : Value) (R : List (List Int)) (H : AH) (hu : Rd2 1 H u R) (hR : EvOk n R) :
    ACalls Try.prog 129 [.agg #[.int .i64 n, u]] H (is (.bool (whistB n R)) H) := by
  refine acalls_up (by simp [flat, Abs.scal]) (ACalls.wf (by kernel_rfl) fun hs => acalls_of_awp [.tmp 2] Try.func129 (by kernel_rfl) rfl rfl (Nat.le_of_ble_eq_true rfl) (by kernel_rfl) ?_)
  have hone := hu.one
  have hRl := hR.1
  have em : Int.tmod (n : Int) 4 = ((n % 4 : Nat) : Int) := rfl
  have up : Up H.next H (H.push ⟨117, true, [.int .i64 n, u]⟩) := (Up.refl _ H).push (Nat.le_refl _) _
  have e1 : (H.push ⟨117, true, [.int .i64 n, u]⟩).row H.next = some ⟨117, true, [.int .i64 n, u]⟩ := by rw [AH.push_row, if_pos rfl]
  have n1 : (H.push ⟨117, true, [.int .i64 n, u]⟩).next = H.next + 1 := rfl
  have sc1 : Sc (H.push ⟨117, true, [.int .i64 n, u]⟩) := Sc.push hs _
  try simp (disch := first | omega | (simp only [ints_length, List.length_replicate, List.length_set]; done) | (simp only [ints_length, List.length_replicate, List.length_set]; omega)) only [Sall,evalOp,init,binE,binI,unE,convE,okNil,builtE,gv,TD.isAgg,resV,↓reduceIte,Nat.reduceEqDiff,reduceCtorEq,Nat.reduceAdd,Nat.reduceMul,Nat.reduceLeDiff,quietOp,blindOp,Int.reduceEq,Int.reduceLT,Int.reduceLE,Nat.reduceLT,ti2,ti3,ti4,ti79,ti80,ti28,ti25,ti31,ti22,ti33,ti24,ti67,ti111,ti145,ti136,ti137,ti117,ti100, hone]
  revert up e1 n1 sc1
  generalize H.push ⟨117, true, [.int .i64 n, u]⟩ = H1
  intro up e1 n1 sc1
  have hu1 := hu.same (up.le hs).row
  have hln := hu1.len
  unfold whistB formB
  by_cases h4 : n % 4 ≤ 1
  · have d1 : ¬ (1 : Int) < ((n % 4 : Nat) : Int) := by omega
    rw [decide_eq_true h4]
    by_cases hm : R.length = n - 1 + n % 4
    · have d2 : ((R.length : Int) != (n : Int) - 1 + ((n % 4 : Nat) : Int)) = false := by rw [hm, show (((n - 1 + n % 4 : Nat)) : Int) = (n : Int) - 1 + ((n % 4 : Nat) : Int) by omega]; exact bne_self_eq_false _
      rw [decide_eq_true hm]
      try simp (disch := first | omega | (simp only [ints_length, List.length_replicate, List.length_set]; done) | (simp only [ints_length, List.length_replicate, List.length_set]; omega)) only [Sall,evalOp,init,binE,binI,unE,convE,okNil,builtE,gv,TD.isAgg,resV,↓reduceIte,Nat.reduceEqDiff,reduceCtorEq,Nat.reduceAdd,Nat.reduceMul,Nat.reduceLeDiff,quietOp,blindOp,Int.reduceEq,Int.reduceLT,Int.reduceLE,Nat.reduceLT,ti2,ti3,ti4,ti79,ti80,ti28,ti25,ti31,ti22,ti33,ti24,ti67,ti111,ti145,ti136,ti137,ti117,ti100, e1, em, d1, builtE, hln, d2, decide_false, w64]
      refine awp_loop (fun m t H' => ∃ i : Nat, m = R.length - i ∧ i ≤ R.length ∧ t 4 = .int .i64 i ∧ t 3 = .int .i64 n ∧ t 1 = .pointer (some ⟨H.next, 0, none⟩) ∧ H' = H1 ∧ (∀ j, j < i → decide ((R.getD j []).length = n - n % 4) = true)) R.length ?_ ?_
      · refine ⟨0, by omega, by omega, ?_⟩
        try simp (disch := first | omega | (simp only [ints_length, List.length_replicate, List.length_set]; done) | (simp only [ints_length, List.length_replicate, List.length_set]; omega)) only [Sall,evalOp,init,binE,binI,unE,convE,okNil,builtE,gv,TD.isAgg,resV,↓reduceIte,Nat.reduceEqDiff,reduceCtorEq,Nat.reduceAdd,Nat.reduceMul,Nat.reduceLeDiff,quietOp,blindOp,Int.reduceEq,Int.reduceLT,Int.reduceLE,Nat.reduceLT,ti2,ti3,ti4,ti79,ti80,ti28,ti25,ti31,ti22,ti33,ti24,ti67,ti111,ti145,ti136,ti137,ti117,ti100, Int.natCast_zero, Nat.not_lt_zero, false_implies]
      · rintro m t H' ⟨i, hm', hi, h4', h3, h1, rfl, hall⟩
        try simp (disch := first | omega | (simp only [ints_length, List.length_replicate, List.length_set]; done) | (simp only [ints_length, List.length_replicate, List.length_set]; omega)) only [Sall,evalOp,init,binE,binI,unE,convE,okNil,builtE,gv,TD.isAgg,resV,↓reduceIte,Nat.reduceEqDiff,reduceCtorEq,Nat.reduceAdd,Nat.reduceMul,Nat.reduceLeDiff,quietOp,blindOp,Int.reduceEq,Int.reduceLT,Int.reduceLE,Nat.reduceLT,ti2,ti3,ti4,ti79,ti80,ti28,ti25,ti31,ti22,ti33,ti24,ti67,ti111,ti145,ti136,ti137,ti117,ti100, h4', h1, e1, builtE, hln]
        refine condC_dec (fun h => ?_) (fun h => ?_)
        · obtain ⟨xi, xo, xuu, xc, xr, y, my, ex, hxr, hy, hsx, hok⟩ := hu1.get (j := i) (by omega)
          have hmm := hsx.lenK1
          have hl16 := (hR.2 i (by omega)).1
          subst hmm
          have hyl := hsx.len
          by_cases hl : (R.getD i []).length = n - n % 4
          · have e : (((R.getD i []).length : Int) != (n : Int) - ((n % 4 : Nat) : Int)) = false := by rw [hl, show (((n - n % 4 : Nat)) : Int) = (n : Int) - ((n % 4 : Nat) : Int) by omega]; exact bne_self_eq_false _
            try simp (disch := first | omega | (simp only [ints_length, List.length_replicate, List.length_set]; done) | (simp only [ints_length, List.length_replicate, List.length_set]; omega)) only [Sall,evalOp,init,binE,binI,unE,convE,okNil,builtE,gv,TD.isAgg,resV,↓reduceIte,Nat.reduceEqDiff,reduceCtorEq,Nat.reduceAdd,Nat.reduceMul,Nat.reduceLeDiff,quietOp,blindOp,Int.reduceEq,Int.reduceLT,Int.reduceLE,Nat.reduceLT,ti2,ti3,ti4,ti79,ti80,ti28,ti25,ti31,ti22,ti33,ti24,ti67,ti111,ti145,ti136,ti137,ti117,ti100, h4', h3, h1, e1, ex, hxr, hy, hok, builtE, hyl, em, e, w64]
            (repeat refine And.intro (by omega) ?_)
            refine ⟨R.length - (i + 1), by omega, i + 1, rfl, by omega, by omega, fun j hj => ?_⟩
            by_cases e : j = i
            · rw [e]; exact decide_eq_true hl
            · exact hall j (by omega)
          · have e : (((R.getD i []).length : Int) != (n : Int) - ((n % 4 : Nat) : Int)) = true := by rw [bne_iff_ne]; omega
            have hall2 : ((List.range R.length).all fun i => decide ((R.getD i []).length = n - n % 4)) = false := all_false_of (i := i) (by omega) (decide_eq_false hl)
            rw [hall2]
            try simp (disch := first | omega | (simp only [ints_length, List.length_replicate, List.length_set]; done) | (simp only [ints_length, List.length_replicate, List.length_set]; omega)) only [Sall,evalOp,init,binE,binI,unE,convE,okNil,builtE,gv,TD.isAgg,resV,↓reduceIte,Nat.reduceEqDiff,reduceCtorEq,Nat.reduceAdd,Nat.reduceMul,Nat.reduceLeDiff,quietOp,blindOp,Int.reduceEq,Int.reduceLT,Int.reduceLE,Nat.reduceLT,ti2,ti3,ti4,ti79,ti80,ti28,ti25,ti31,ti22,ti33,ti24,ti67,ti111,ti145,ti136,ti137,ti117,ti100, h4', h3, h1, e1, ex, hxr, hy, hok, builtE, hyl, em, e, w64, Bool.and_false, Bool.false_and]
            (repeat refine And.intro (by omega) ?_)
            exact up
        · have hi2 : i = R.length := by omega
          subst hi2
          have hall2 : ((List.range R.length).all fun i => decide ((R.getD i []).length = n - n % 4)) = true := all_true_of fun i hi => hall i hi
          have hR4 : ∀ i, i < R.length → (R.getD i []).length % 4 = 0 := fun i hi => by
            have := of_decide_eq_true (hall i hi)
            omega
          rw [hall2]
          have z1 : zeros 1 [.int .i64 0] = [.int .i64 0] := rfl
          have z2 : zeros 2 [.int .i64 0] = [.int .i64 0, .int .i64 0] := rfl
          try simp (disch := first | omega | (simp only [ints_length, List.length_replicate, List.length_set]; done) | (simp only [ints_length, List.length_replicate, List.length_set]; omega)) only [Sall,evalOp,init,binE,binI,unE,convE,okNil,builtE,gv,TD.isAgg,resV,↓reduceIte,Nat.reduceEqDiff,reduceCtorEq,Nat.reduceAdd,Nat.reduceMul,Nat.reduceLeDiff,quietOp,blindOp,Int.reduceEq,Int.reduceLT,Int.reduceLE,Nat.reduceLT,ti2,ti3,ti4,ti79,ti80,ti28,ti25,ti31,ti22,ti33,ti24,ti67,ti111,ti145,ti136,ti137,ti117,ti100, h1, e1, z1, slCells, Bool.true_and]
          obtain ⟨H3, e3⟩ : ∃ H3, H3 = H'.push ⟨3, true, [.int .i64 1]⟩ := ⟨_, rfl⟩
          have up3 : Up H'.next H' H3 := by rw [e3]; exact (Up.refl _ _).push (Nat.le_refl _) _
          have r3 : H3.row H'.next = some ⟨3, true, [.int .i64 1]⟩ := by rw [e3, AH.push_row, if_pos rfl]
          have n3 : H3.next = H'.next + 1 := by rw [e3]; rfl
          rw [← e3]
          clear e3
          have U3 : Up H.next H H3 := up.trans up3 (by omega)
          refine (l06Table_c n hn u R (.slice (some ⟨H'.next, 0, some 1⟩) 1 1) [1] wP way1 H3 (hu.same (U3.le hs).row) ⟨rfl, .inr ⟨H'.next, 0, _, _, _, rfl, r3, Nat.le_refl _, rfl⟩⟩ (by decide) (by decide) hR hR4).sc.mono ?_
          rintro v4 H4 ⟨⟨up4, f4⟩, sc4⟩
          have n4 := up4.next
          have r4 : H4.row H.next = some ⟨117, true, [.int .i64 n, u]⟩ := by rw [up4.row _ (by omega), up3.row _ (by omega), e1]
          have U4 : Up H.next H H4 := U3.trans up4 (by omega)
          refine Holds.mp ?_
          try simp (disch := first | omega | (simp only [ints_length, List.length_replicate, List.length_set]; done) | (simp only [ints_length, List.length_replicate, List.length_set]; omega)) only [Sall,evalOp,init,binE,binI,unE,convE,okNil,builtE,gv,TD.isAgg,resV,↓reduceIte,Nat.reduceEqDiff,reduceCtorEq,Nat.reduceAdd,Nat.reduceMul,Nat.reduceLeDiff,quietOp,blindOp,Int.reduceEq,Int.reduceLT,Int.reduceLE,Nat.reduceLT,ti2,ti3,ti4,ti79,ti80,ti28,ti25,ti31,ti22,ti33,ti24,ti67,ti111,ti145,ti136,ti137,ti117,ti100, true_and]
          refine (l06Each_c v4 n _ 1 H4 f4.rd (tabM_sq _ _ _) (by omega)).to ?_
          cases g1 : eachB (fun x => x == 1) (tabM n wP R) with
          | false =>
            try simp (disch := first | omega | (simp only [ints_length, List.length_replicate, List.length_set]; done) | (simp only [ints_length, List.length_replicate, List.length_set]; omega)) only [Sall,evalOp,init,binE,binI,unE,convE,okNil,builtE,gv,TD.isAgg,resV,↓reduceIte,Nat.reduceEqDiff,reduceCtorEq,Nat.reduceAdd,Nat.reduceMul,Nat.reduceLeDiff,quietOp,blindOp,Int.reduceEq,Int.reduceLT,Int.reduceLE,Nat.reduceLT,ti2,ti3,ti4,ti79,ti80,ti28,ti25,ti31,ti22,ti33,ti24,ti67,ti111,ti145,ti136,ti137,ti117,ti100, Bool.false_and]
            exact ⟨rfl, U4⟩
          | true =>
            try simp (disch := first | omega | (simp only [ints_length, List.length_replicate, List.length_set]; done) | (simp only [ints_length, List.length_replicate, List.length_set]; omega)) only [Sall,evalOp,init,binE,binI,unE,convE,okNil,builtE,gv,TD.isAgg,resV,↓reduceIte,Nat.reduceEqDiff,reduceCtorEq,Nat.reduceAdd,Nat.reduceMul,Nat.reduceLeDiff,quietOp,blindOp,Int.reduceEq,Int.reduceLT,Int.reduceLE,Nat.reduceLT,ti2,ti3,ti4,ti79,ti80,ti28,ti25,ti31,ti22,ti33,ti24,ti67,ti111,ti145,ti136,ti137,ti117,ti100, Bool.true_and, h1, r4, z2, slCells]
            obtain ⟨H5, e5⟩ : ∃ H5, H5 = H4.push ⟨3, true, [.int .i64 2, .int .i64 3]⟩ := ⟨_, rfl⟩
            have up5 : Up H4.next H4 H5 := by rw [e5]; exact (Up.refl _ _).push (Nat.le_refl _) _
            have r5 : H5.row H4.next = some ⟨3, true, [.int .i64 2, .int .i64 3]⟩ := by rw [e5, AH.push_row, if_pos rfl]
            have n5 : H5.next = H4.next + 1 := by rw [e5]; rfl
            rw [← e5]
            clear e5
            have U5 : Up H.next H H5 := U4.trans up5 (by omega)
            refine (l06Table_c n hn u R (.slice (some ⟨H4.next, 0, some 1⟩) 2 2) [2, 3] wO way23 H5 (hu.same (U5.le hs).row) ⟨rfl, .inr ⟨H4.next, 0, _, _, _, rfl, r5, Nat.le_refl _, rfl⟩⟩ (by decide) (by decide) hR hR4).sc.mono ?_
            rintro v6 H6 ⟨⟨up6, f6⟩, sc6⟩
            have n6 := up6.next
            refine Holds.mp ?_
            try simp (disch := first | omega | (simp only [ints_length, List.length_replicate, List.length_set]; done) | (simp only [ints_length, List.length_replicate, List.length_set]; omega)) only [Sall,evalOp,init,binE,binI,unE,convE,okNil,builtE,gv,TD.isAgg,resV,↓reduceIte,Nat.reduceEqDiff,reduceCtorEq,Nat.reduceAdd,Nat.reduceMul,Nat.reduceLeDiff,quietOp,blindOp,Int.reduceEq,Int.reduceLT,Int.reduceLE,Nat.reduceLT,ti2,ti3,ti4,ti79,ti80,ti28,ti25,ti31,ti22,ti33,ti24,ti67,ti111,ti145,ti136,ti137,ti117,ti100, true_and]
            refine (l06Each_c v6 n _ 2 H6 f6.rd (tabM_sq _ _ _) (by omega)).to ?_
            try simp (disch := first | omega | (simp only [ints_length, List.length_replicate, List.length_set]; done) | (simp only [ints_length, List.length_replicate, List.length_set]; omega)) only [Sall,evalOp,init,binE,binI,unE,convE,okNil,builtE,gv,TD.isAgg,resV,↓reduceIte,Nat.reduceEqDiff,reduceCtorEq,Nat.reduceAdd,Nat.reduceMul,Nat.reduceLeDiff,quietOp,blindOp,Int.reduceEq,Int.reduceLT,Int.reduceLE,Nat.reduceLT,ti2,ti3,ti4,ti79,ti80,ti28,ti25,ti31,ti22,ti33,ti24,ti67,ti111,ti145,ti136,ti137,ti117,ti100, true_and]
            exact ⟨rfl, U5.trans up6 (by omega)⟩
    · have d2 : ((R.length : Int) != (n : Int) - 1 + ((n % 4 : Nat) : Int)) = true := by rw [bne_iff_ne]; omega
      rw [decide_eq_false hm]
      try simp (disch := first | omega | (simp only [ints_length, List.length_replicate, List.length_set]; done) | (simp only [ints_length, List.length_replicate, List.length_set]; omega)) only [Sall,evalOp,init,binE,binI,unE,convE,okNil,builtE,gv,TD.isAgg,resV,↓reduceIte,Nat.reduceEqDiff,reduceCtorEq,Nat.reduceAdd,Nat.reduceMul,Nat.reduceLeDiff,quietOp,blindOp,Int.reduceEq,Int.reduceLT,Int.reduceLE,Nat.reduceLT,ti2,ti3,ti4,ti79,ti80,ti28,ti25,ti31,ti22,ti33,ti24,ti67,ti111,ti145,ti136,ti137,ti117,ti100, e1, em, d1, builtE, hln, d2, decide_false, w64, Bool.and_false, Bool.false_and]
      exact up
  · have d1 : (1 : Int) < ((n % 4 : Nat) : Int) := by omega
    rw [decide_eq_false h4]
    try simp (disch := first | omega | (simp only [ints_length, List.length_replicate, List.length_set]; done) | (simp only [ints_length, List.length_replicate, List.length_set]; omega)) only [Sall,evalOp,init,binE,binI,unE,convE,okNil,builtE,gv,TD.isAgg,resV,↓reduceIte,Nat.reduceEqDiff,reduceCtorEq,Nat.reduceAdd,Nat.reduceMul,Nat.reduceLeDiff,quietOp,blindOp,Int.reduceEq,Int.reduceLT,Int.reduceLE,Nat.reduceLT,ti2,ti3,ti4,ti79,ti80,ti28,ti25,ti31,ti22,ti33,ti24,ti67,ti111,ti145,ti136,ti137,ti117,ti100, e1, em, d1, decide_true, Bool.false_and, w64]
    exact up

/-- While the tables are still to come. -/
structure FtJ (A : AH) (n : Nat) (R : List (List Int)) (sv : Value) (cs fs : List Nat) (t : T) (H : AH) : Prop where
  hcs : cs = [1, 2] ∨ cs = [2] ∨ cs = []
  hfs : fs = [4] ∨ fs = []
  t13 : t 13 = sv
  t16 : t 16 = sv
  up : Up A.next A H
  sc : Sc H
  p1 : 1 ∉ cs → ∃ i, t 14 = .slice (some ⟨i, 0, some 1⟩) 1 1 ∧ i < H.next ∧ H.row i = some ⟨3, true, [.int .i64 1]⟩
  s2 : 2 ∉ cs → Fr2 1 28 2 A.next H.next H (t 15) (tabM n wP R)
  p4 : 4 ∉ fs → ∃ i, t 17 = .slice (some ⟨i, 0, some 1⟩) 2 2 ∧ i < H.next ∧ H.row i = some ⟨3, true, [.int .i64 2, .int .i64 3]⟩
theorem push_up (H : AH) (r : Row) : Up H.next H (H.push r) := (Up.refl _ H).push (Nat.le_refl _) _
theorem fr2_up {lo : Nat} {v : Value} {M : List (List Int)} {H H' : AH} (h : Fr2 1 28 2 lo H.next H v M) (u : Up H.next H H') : Fr2 1 28 2 lo H'.next H' v M :=
  (h.same fun i _ hi => u.row i hi).wide (Nat.le_refl _) u.next
theorem cell_up {i : Nat} {H H' : AH} {r : Row} (hi : i < H.next) (h : H.row i = some r) (u : Up H.next H H') : i < H'.next ∧ H'.row i = some r := ⟨by have := u.next; omega, by rw [u.row i hi]; exact h⟩

theorem l06Fits_c (n : Nat) (hn : n = 4 ∨ n = 5 ∨ n = 8 ∨ n = 9) (v : Value) (y : List Int) (H : AH) (hv : Rd 1 H v y.length y) (hy : y.length ≤ 16) (hy4 : y.length % 4 = 0) (hin : ∀ x ∈ y, 0 ≤ x ∧ x < (n : Int)) (hnd : y.Nodup)
    (hEv : EvOk n (madeL (mOf n) y (mOf n))) (hm : 1 ≤ mOf n ∧ mOf n ≤ n) :
    ACalls Try.prog 131 [.int .i64 n, v] H (is (.bool (fitsB n y)) H) := by
  refine acalls_up rfl (ACalls.wf (by kernel_rfl) fun hs => acalls_of_awp [.tmp 4] Try.func131 (by kernel_rfl) rfl rfl (Nat.le_of_ble_eq_true rfl) (by kernel_rfl) ?_)
  have hn16 : 1 ≤ n ∧ n ≤ 9 := by omega
  have hfit : fitsB n y = (eachB (fun x => decide (x ≤ 1)) (tabM n wP (madeL (mOf n) y (mOf n))) && eachB (fun x => decide (x ≤ 2)) (tabM n wO (madeL (mOf n) y (mOf n)))) := rfl
  have hd1 : ∀ x, x < n → ((tabM n wP (madeL (mOf n) y (mOf n))).getD x []).getD x 0 = 0 := fun x hx => tabM_diag (by decide) hm hin hnd hx
  have hd2 : ∀ x, x < n → ((tabM n wO (madeL (mOf n) y (mOf n))).getD x []).getD x 0 = 0 := fun x hx => tabM_diag (by decide) hm hin hnd hx
  have hR4 : ∀ i, i < (madeL (mOf n) y (mOf n)).length → ((madeL (mOf n) y (mOf n)).getD i []).length % 4 = 0 := fun i hi => by
    rw [madeL_length] at hi
    rw [madeL_getD _ _ _ i hi, mdL_length]; exact hy4
  have hmade := l06Made_c n (by omega) v y H hv (by omega) hin
  rw [hfit]
  clear hfit
  revert hEv hd1 hd2 hR4 hmade
  generalize madeL (mOf n) y (mOf n) = R
  intro hEv hd1 hd2 hR4 hmade
  have hmade2 : ACalls Try.prog 130 [.int .i64 n, v] H (fun r H' => ∃ u, r = .agg #[.int .i64 n, u] ∧ (Up H.next H H' ∧ Fr2 1 28 2 H.next H'.next H' u R ∧ Sc H')) :=
    hmade.sc.mono fun r H' h => by obtain ⟨⟨u, e, a, b⟩, c⟩ := h; exact ⟨u, e, a, b, c⟩
  try simp (disch := first | omega | (simp only [ints_length, List.length_replicate, List.length_set]; done) | (simp only [ints_length, List.length_replicate, List.length_set]; omega)) only [Sall,evalOp,init,binE,binI,unE,convE,okNil,builtE,gv,TD.isAgg,resV,↓reduceIte,Nat.reduceEqDiff,reduceCtorEq,Nat.reduceAdd,Nat.reduceMul,Nat.reduceLeDiff,quietOp,blindOp,Int.reduceEq,Int.reduceLT,Int.reduceLE,Nat.reduceLT,ti2,ti3,ti4,ti79,ti80,ti28,ti25,ti31,ti22,ti33,ti24,ti67,ti111,ti145,ti136,ti137,ti117,ti100, true_and]
  refine hmade2.ex ?_
  rintro u H2 ⟨up2, f2, sc2⟩
  have n2 := up2.next
  have o2 := f2.rd.one
  try simp (disch := first | omega | (simp only [ints_length, List.length_replicate, List.length_set]; done) | (simp only [ints_length, List.length_replicate, List.length_set]; omega)) only [Sall,evalOp,init,binE,binI,unE,convE,okNil,builtE,gv,TD.isAgg,resV,↓reduceIte,Nat.reduceEqDiff,reduceCtorEq,Nat.reduceAdd,Nat.reduceMul,Nat.reduceLeDiff,quietOp,blindOp,Int.reduceEq,Int.reduceLT,Int.reduceLE,Nat.reduceLT,ti2,ti3,ti4,ti79,ti80,ti28,ti25,ti31,ti22,ti33,ti24,ti67,ti111,ti145,ti136,ti137,ti117,ti100, o2]
  obtain ⟨H3, e3⟩ : ∃ H3, H3 = (H2.push ⟨117, true, [.int .i64 0, .slice none 0 0]⟩).setCells H2.next [.int .i64 n, u] := ⟨_, rfl⟩
  have up3 : Up H2.next H2 H3 := by rw [e3]; exact ((Up.refl _ H2).push (Nat.le_refl _) _).set (Nat.le_refl _) _
  have r3 : H3.row H2.next = some ⟨117, true, [.int .i64 n, u]⟩ := by rw [e3, AH.setCells_row, if_pos rfl, AH.push_row, if_pos rfl]; rfl
  have n3 : H3.next = H2.next + 1 := by rw [e3]; rfl
  have sc3 : Sc H3 := by rw [e3]; exact (sc2.push _).set _ _
  rw [← e3]
  clear e3
  have U3 : Up H.next H H3 := up2.trans up3 n2
  have f3 : Fr2 1 28 2 H.next H2.next H3 u R := f2.same fun i _ hi => up3.row i hi
  have hR3 : ∀ H' : AH, Up H3.next H3 H' → Rd2 1 H' u R := fun H' u => (f3.same fun i _ hi => u.row i (by omega)).rd
  have z1 : zeros 1 [.int .i64 0] = [.int .i64 0] := rfl
  have z2 : zeros 2 [.int .i64 0] = [.int .i64 0, .int .i64 0] := rfl
  refine awp_cutQ (fun t H4 => ∃ v6 v7 : Value, t 6 = v6 ∧ t 7 = v7 ∧ Up H3.next H3 H4 ∧ Rd2 1 H4 v6 (tabM n wP R) ∧ Rd2 1 H4 v7 (tabM n wO R)) ?_ ?_
  · refine draw_pool [0, 3] [1, 2] [4] (OT.run [5, 6, 7] .nil) (by kernel_rfl) (by kernel_rfl) (Nat.le_of_ble_eq_true rfl) (FtJ H3 n R (.agg #[.int .i64 n, u])) ⟨?_, ?_, ?_⟩ ?_
    · intro c cs fs t H4 hJ
      rcases hJ.hcs with e | e | e
      · injection e with e1 e2
        subst e1; subst e2
        try simp (disch := first | omega | (simp only [ints_length, List.length_replicate, List.length_set]; done) | (simp only [ints_length, List.length_replicate, List.length_set]; omega)) only [Sall,evalOp,init,binE,binI,unE,convE,okNil,builtE,gv,TD.isAgg,resV,↓reduceIte,Nat.reduceEqDiff,reduceCtorEq,Nat.reduceAdd,Nat.reduceMul,Nat.reduceLeDiff,quietOp,blindOp,Int.reduceEq,Int.reduceLT,Int.reduceLE,Nat.reduceLT,ti2,ti3,ti4,ti79,ti80,ti28,ti25,ti31,ti22,ti33,ti24,ti67,ti111,ti145,ti136,ti137,ti117,ti100, awpT_nil, awpT_one, awpT_run_nil, awpT_run_cons, z1]
        exact ⟨.inr (.inr (hJ.sc.le _)), by simp, hJ.hfs, hJ.t13, hJ.t16, hJ.up.push hJ.up.next _, hJ.sc.push _, fun _ => ⟨H4.next, rfl, Nat.lt_succ_self _, by rw [AH.push_row, if_pos rfl]⟩, fun k => absurd (by simp) k, fun k => by
          obtain ⟨i, a1, a2, a3⟩ := hJ.p4 k
          exact ⟨i, a1, (cell_up a2 a3 (push_up _ _)).1, (cell_up a2 a3 (push_up _ _)).2⟩⟩
      · injection e with e1 e2
        subst e1; subst e2
        obtain ⟨i, a1, a2, a3⟩ := hJ.p1 (by simp)
        try simp (disch := first | omega | (simp only [ints_length, List.length_replicate, List.length_set]; done) | (simp only [ints_length, List.length_replicate, List.length_set]; omega)) only [Sall,evalOp,init,binE,binI,unE,convE,okNil,builtE,gv,TD.isAgg,resV,↓reduceIte,Nat.reduceEqDiff,reduceCtorEq,Nat.reduceAdd,Nat.reduceMul,Nat.reduceLeDiff,quietOp,blindOp,Int.reduceEq,Int.reduceLT,Int.reduceLE,Nat.reduceLT,ti2,ti3,ti4,ti79,ti80,ti28,ti25,ti31,ti22,ti33,ti24,ti67,ti111,ti145,ti136,ti137,ti117,ti100, awpT_nil, awpT_one, awpT_run_nil, awpT_run_cons, hJ.t13, a1]
        refine (l06Table_c n (by omega) u R (.slice (some ⟨i, 0, some 1⟩) 1 1) [1] wP way1 H4 (hR3 H4 hJ.up) ⟨rfl, .inr ⟨i, 0, _, _, _, rfl, a3, Nat.le_refl _, rfl⟩⟩ (by decide) (by decide) hEv hR4).sc.mono ?_
        rintro w H5 ⟨⟨up5, f5⟩, sc5⟩
        exact ⟨.inr (.inr (up5.le hJ.sc)), by simp, hJ.hfs, hJ.t13, hJ.t16, hJ.up.trans up5 hJ.up.next, sc5, fun _ => ⟨i, a1, (cell_up a2 a3 up5).1, (cell_up a2 a3 up5).2⟩, fun _ => f5.wide hJ.up.next (Nat.le_refl _), fun k => by
          obtain ⟨i, a1, a2, a3⟩ := hJ.p4 k
          exact ⟨i, a1, (cell_up a2 a3 up5).1, (cell_up a2 a3 up5).2⟩⟩
      · cases e
    · intro a cs fs t H4 ha hJ
      rcases hJ.hfs with e | e
      · subst e
        have e4 : a = 4 := by simpa using ha
        subst e4
        try simp (disch := first | omega | (simp only [ints_length, List.length_replicate, List.length_set]; done) | (simp only [ints_length, List.length_replicate, List.length_set]; omega)) only [Sall,evalOp,init,binE,binI,unE,convE,okNil,builtE,gv,TD.isAgg,resV,↓reduceIte,Nat.reduceEqDiff,reduceCtorEq,Nat.reduceAdd,Nat.reduceMul,Nat.reduceLeDiff,quietOp,blindOp,Int.reduceEq,Int.reduceLT,Int.reduceLE,Nat.reduceLT,ti2,ti3,ti4,ti79,ti80,ti28,ti25,ti31,ti22,ti33,ti24,ti67,ti111,ti145,ti136,ti137,ti117,ti100, awpT_nil, awpT_one, awpT_run_nil, awpT_run_cons, z2]
        exact ⟨.inr (.inr (hJ.sc.le _)), hJ.hcs, .inr (by simp), hJ.t13, hJ.t16, hJ.up.push hJ.up.next _, hJ.sc.push _, fun k => by
          obtain ⟨i, a1, a2, a3⟩ := hJ.p1 k
          exact ⟨i, a1, (cell_up a2 a3 (push_up _ _)).1, (cell_up a2 a3 (push_up _ _)).2⟩, fun k => fr2_up (hJ.s2 k) (push_up _ _), fun _ => ⟨H4.next, rfl, Nat.lt_succ_self _, by rw [AH.push_row, if_pos rfl]⟩⟩
      · subst e; simp at ha
    · intro t H4 hJ
      obtain ⟨i, a1, a2, a3⟩ := hJ.p4 (by simp)
      have f4 := hJ.s2 (by simp)
      try simp (disch := first | omega | (simp only [ints_length, List.length_replicate, List.length_set]; done) | (simp only [ints_length, List.length_replicate, List.length_set]; omega)) only [Sall,evalOp,init,binE,binI,unE,convE,okNil,builtE,gv,TD.isAgg,resV,↓reduceIte,Nat.reduceEqDiff,reduceCtorEq,Nat.reduceAdd,Nat.reduceMul,Nat.reduceLeDiff,quietOp,blindOp,Int.reduceEq,Int.reduceLT,Int.reduceLE,Nat.reduceLT,ti2,ti3,ti4,ti79,ti80,ti28,ti25,ti31,ti22,ti33,ti24,ti67,ti111,ti145,ti136,ti137,ti117,ti100, awpT_nil, awpT_one, awpT_run_nil, awpT_run_cons, hJ.t16, a1]
      refine (l06Table_c n (by omega) u R (.slice (some ⟨i, 0, some 1⟩) 2 2) [2, 3] wO way23 H4 (hR3 H4 hJ.up) ⟨rfl, .inr ⟨i, 0, _, _, _, rfl, a3, Nat.le_refl _, rfl⟩⟩ (by decide) (by decide) hEv hR4).mono ?_
      rintro w H5 ⟨up5, f5⟩
      refine ⟨.inr (.inr (up5.le hJ.sc)), ?_⟩
      refine Holds.mp ?_
      try simp (disch := first | omega | (simp only [ints_length, List.length_replicate, List.length_set]; done) | (simp only [ints_length, List.length_replicate, List.length_set]; omega)) only [Sall,evalOp,init,binE,binI,unE,convE,okNil,builtE,gv,TD.isAgg,resV,↓reduceIte,Nat.reduceEqDiff,reduceCtorEq,Nat.reduceAdd,Nat.reduceMul,Nat.reduceLeDiff,quietOp,blindOp,Int.reduceEq,Int.reduceLT,Int.reduceLE,Nat.reduceLT,ti2,ti3,ti4,ti79,ti80,ti28,ti25,ti31,ti22,ti33,ti24,ti67,ti111,ti145,ti136,ti137,ti117,ti100, awpT_nil, awpT_one, awpT_run_nil, awpT_run_cons]
      exact ⟨_, _, rfl, rfl, hJ.up.trans up5 hJ.up.next, (fr2_up f4 up5).rd, f5.rd⟩
    · try simp (disch := first | omega | (simp only [ints_length, List.length_replicate, List.length_set]; done) | (simp only [ints_length, List.length_replicate, List.length_set]; omega)) only [Sall,evalOp,init,binE,binI,unE,convE,okNil,builtE,gv,TD.isAgg,resV,↓reduceIte,Nat.reduceEqDiff,reduceCtorEq,Nat.reduceAdd,Nat.reduceMul,Nat.reduceLeDiff,quietOp,blindOp,Int.reduceEq,Int.reduceLT,Int.reduceLE,Nat.reduceLT,ti2,ti3,ti4,ti79,ti80,ti28,ti25,ti31,ti22,ti33,ti24,ti67,ti111,ti145,ti136,ti137,ti117,ti100, awpT_nil, awpT_one, awpT_run_nil, awpT_run_cons, r3]
      exact ⟨by simp, by simp, rfl, rfl, Up.refl _ _, sc3, fun k => absurd (by simp) k, fun k => absurd (by simp) k, fun k => absurd (by simp) k⟩
  · rintro t H4 ⟨v6, v7, h6, h7, up4, g6, g7⟩
    have U4 : Up H.next H H4 := U3.trans up4 (by omega)
    have sq6 := tabM_sq n wP R
    have sq7 := tabM_sq n wO R
    revert hd1 hd2 sq6 sq7 g6 g7
    generalize tabM n wP R = M1
    generalize tabM n wO R = M2
    intro hd1 hd2 g6 g7 sq6 sq7
    have hl6 := g6.len
    rw [sq6.1] at hl6
    have hP : ∀ i j, i < n → j < n → (¬ (M1.getD i []).getD j 0 ≤ 1 ∨ ¬ (M2.getD i []).getD j 0 ≤ 2) → (eachB (fun x => decide (x ≤ 1)) M1 && eachB (fun x => decide (x ≤ 2)) M2) = false := by
      intro i j hi hj h
      by_cases hij : i = j
      · subst hij
        have h1 := hd1 i hi
        have h2 := hd2 i hi
        omega
      · rcases h with h | h
        · rw [eachB_bad (i := i) (j := j) (by rw [sq6.1]; exact hi) (by rw [sq6.2 i hi]; exact hj) (by unfold eachAt; rw [decide_eq_false hij, Bool.false_or]; exact decide_eq_false h), Bool.false_and]
        · rw [eachB_bad (M := M2) (i := i) (j := j) (by rw [sq7.1]; exact hi) (by rw [sq7.2 i hi]; exact hj) (by unfold eachAt; rw [decide_eq_false hij, Bool.false_or]; exact decide_eq_false h), Bool.and_false]
    try simp (disch := first | omega | (simp only [ints_length, List.length_replicate, List.length_set]; done) | (simp only [ints_length, List.length_replicate, List.length_set]; omega)) only [Sall,evalOp,init,binE,binI,unE,convE,okNil,builtE,gv,TD.isAgg,resV,↓reduceIte,Nat.reduceEqDiff,reduceCtorEq,Nat.reduceAdd,Nat.reduceMul,Nat.reduceLeDiff,quietOp,blindOp,Int.reduceEq,Int.reduceLT,Int.reduceLE,Nat.reduceLT,ti2,ti3,ti4,ti79,ti80,ti28,ti25,ti31,ti22,ti33,ti24,ti67,ti111,ti145,ti136,ti137,ti117,ti100, true_and]
    refine awp_loop (fun m t H' => ∃ a : Nat, m = n - a ∧ a ≤ n ∧ t 8 = .int .i64 a ∧ t 6 = v6 ∧ t 7 = v7 ∧ H' = H4 ∧ (∀ i, i < a → ∀ j, j < n → (M1.getD i []).getD j 0 ≤ 1 ∧ (M2.getD i []).getD j 0 ≤ 2)) n ?_ ?_
    · refine ⟨0, by omega, by omega, ?_⟩
      try simp (disch := first | omega | (simp only [ints_length, List.length_replicate, List.length_set]; done) | (simp only [ints_length, List.length_replicate, List.length_set]; omega)) only [Sall,evalOp,init,binE,binI,unE,convE,okNil,builtE,gv,TD.isAgg,resV,↓reduceIte,Nat.reduceEqDiff,reduceCtorEq,Nat.reduceAdd,Nat.reduceMul,Nat.reduceLeDiff,quietOp,blindOp,Int.reduceEq,Int.reduceLT,Int.reduceLE,Nat.reduceLT,ti2,ti3,ti4,ti79,ti80,ti28,ti25,ti31,ti22,ti33,ti24,ti67,ti111,ti145,ti136,ti137,ti117,ti100, Int.natCast_zero, Nat.not_lt_zero, false_implies, h6, h7]
    · rintro m t H' ⟨a, hm', han, h8, h6, h7, rfl, hall⟩
      try simp (disch := first | omega | (simp only [ints_length, List.length_replicate, List.length_set]; done) | (simp only [ints_length, List.length_replicate, List.length_set]; omega)) only [Sall,evalOp,init,binE,binI,unE,convE,okNil,builtE,gv,TD.isAgg,resV,↓reduceIte,Nat.reduceEqDiff,reduceCtorEq,Nat.reduceAdd,Nat.reduceMul,Nat.reduceLeDiff,quietOp,blindOp,Int.reduceEq,Int.reduceLT,Int.reduceLE,Nat.reduceLT,ti2,ti3,ti4,ti79,ti80,ti28,ti25,ti31,ti22,ti33,ti24,ti67,ti111,ti145,ti136,ti137,ti117,ti100, h8, h6, builtE, hl6]
      refine condC_dec (fun h => ?_) (fun h => ?_)
      · try simp (disch := first | omega | (simp only [ints_length, List.length_replicate, List.length_set]; done) | (simp only [ints_length, List.length_replicate, List.length_set]; omega)) only [Sall,evalOp,init,binE,binI,unE,convE,okNil,builtE,gv,TD.isAgg,resV,↓reduceIte,Nat.reduceEqDiff,reduceCtorEq,Nat.reduceAdd,Nat.reduceMul,Nat.reduceLeDiff,quietOp,blindOp,Int.reduceEq,Int.reduceLT,Int.reduceLE,Nat.reduceLT,ti2,ti3,ti4,ti79,ti80,ti28,ti25,ti31,ti22,ti33,ti24,ti67,ti111,ti145,ti136,ti137,ti117,ti100, h8, h6, h7]
        refine awp_loop (fun z t H7 => ∃ b : Nat, z = n - b ∧ b ≤ n ∧ t 9 = .int .i64 b ∧ t 8 = .int .i64 a ∧ t 6 = v6 ∧ t 7 = v7 ∧ H7 = H' ∧ (∀ j, j < b → (M1.getD a []).getD j 0 ≤ 1 ∧ (M2.getD a []).getD j 0 ≤ 2)) n ?_ ?_
        · refine ⟨0, by omega, by omega, ?_⟩
          try simp (disch := first | omega | (simp only [ints_length, List.length_replicate, List.length_set]; done) | (simp only [ints_length, List.length_replicate, List.length_set]; omega)) only [Sall,evalOp,init,binE,binI,unE,convE,okNil,builtE,gv,TD.isAgg,resV,↓reduceIte,Nat.reduceEqDiff,reduceCtorEq,Nat.reduceAdd,Nat.reduceMul,Nat.reduceLeDiff,quietOp,blindOp,Int.reduceEq,Int.reduceLT,Int.reduceLE,Nat.reduceLT,ti2,ti3,ti4,ti79,ti80,ti28,ti25,ti31,ti22,ti33,ti24,ti67,ti111,ti145,ti136,ti137,ti117,ti100, Int.natCast_zero, Nat.not_lt_zero, false_implies, h8, h6, h7]
        · rintro z t H7 ⟨b, hz, hbn, h9, h8, h6, h7, rfl, hin2⟩
          try simp (disch := first | omega | (simp only [ints_length, List.length_replicate, List.length_set]; done) | (simp only [ints_length, List.length_replicate, List.length_set]; omega)) only [Sall,evalOp,init,binE,binI,unE,convE,okNil,builtE,gv,TD.isAgg,resV,↓reduceIte,Nat.reduceEqDiff,reduceCtorEq,Nat.reduceAdd,Nat.reduceMul,Nat.reduceLeDiff,quietOp,blindOp,Int.reduceEq,Int.reduceLT,Int.reduceLE,Nat.reduceLT,ti2,ti3,ti4,ti79,ti80,ti28,ti25,ti31,ti22,ti33,ti24,ti67,ti111,ti145,ti136,ti137,ti117,ti100, h9, h6, builtE, hl6]
          refine condC_dec (fun hh => ?_) (fun hh => ?_)
          · obtain ⟨i, o, uu, cc, r, y6, my, ev6, hr6, hy6, hs6, hok6⟩ := g6.get (j := a) (by rw [sq6.1]; omega)
            have hmy := hs6.lenK1
            rw [sq6.2 a (by omega)] at hmy
            subst hmy
            obtain ⟨j6, o6, u6, c6, r6', ey6, hrr6, _, hg6, _⟩ := hs6.get (by omega)
            have q6 := hg6 b (by omega)
            rw [sq6.1] at ev6
            obtain ⟨i', o', uu', cc', r', y7, my', ev7, hr7, hy7, hs7, hok7⟩ := g7.get (j := a) (by rw [sq7.1]; omega)
            have hmy' := hs7.lenK1
            rw [sq7.2 a (by omega)] at hmy'
            subst hmy'
            obtain ⟨j7, o7, u7, c7, r7', ey7, hrr7, _, hg7, _⟩ := hs7.get (by omega)
            have q7 := hg7 b (by omega)
            rw [sq7.1] at ev7
            by_cases c1 : (M1.getD a []).getD b 0 ≤ 1
            · have k1 : ¬ (1 : Int) < (M1.getD a []).getD b 0 := by omega
              by_cases c2 : (M2.getD a []).getD b 0 ≤ 2
              · have k2 : ¬ (2 : Int) < (M2.getD a []).getD b 0 := by omega
                try simp (disch := first | omega | (simp only [ints_length, List.length_replicate, List.length_set]; done) | (simp only [ints_length, List.length_replicate, List.length_set]; omega)) only [Sall,evalOp,init,binE,binI,unE,convE,okNil,builtE,gv,TD.isAgg,resV,↓reduceIte,Nat.reduceEqDiff,reduceCtorEq,Nat.reduceAdd,Nat.reduceMul,Nat.reduceLeDiff,quietOp,blindOp,Int.reduceEq,Int.reduceLT,Int.reduceLE,Nat.reduceLT,ti2,ti3,ti4,ti79,ti80,ti28,ti25,ti31,ti22,ti33,ti24,ti67,ti111,ti145,ti136,ti137,ti117,ti100, h9, h8, h6, h7, ev6, hr6, hy6, hok6, ey6, hrr6, q6, k1, ev7, hr7, hy7, hok7, ey7, hrr7, q7, k2, decide_false, w64]
                (repeat refine And.intro (by omega) ?_)
                refine ⟨_, ?_, b + 1, rfl, ?_, ?_, fun j hj => ?_⟩
                · omega
                · omega
                · omega
                · by_cases e : j = b
                  · rw [e]; exact ⟨c1, c2⟩
                  · exact hin2 j (by omega)
              · have k2 : (2 : Int) < (M2.getD a []).getD b 0 := by omega
                try simp (disch := first | omega | (simp only [ints_length, List.length_replicate, List.length_set]; done) | (simp only [ints_length, List.length_replicate, List.length_set]; omega)) only [Sall,evalOp,init,binE,binI,unE,convE,okNil,builtE,gv,TD.isAgg,resV,↓reduceIte,Nat.reduceEqDiff,reduceCtorEq,Nat.reduceAdd,Nat.reduceMul,Nat.reduceLeDiff,quietOp,blindOp,Int.reduceEq,Int.reduceLT,Int.reduceLE,Nat.reduceLT,ti2,ti3,ti4,ti79,ti80,ti28,ti25,ti31,ti22,ti33,ti24,ti67,ti111,ti145,ti136,ti137,ti117,ti100, h9, h8, h6, h7, ev6, hr6, hy6, hok6, ey6, hrr6, q6, k1, ev7, hr7, hy7, hok7, ey7, hrr7, q7, k2, decide_false, decide_true, w64]
                (repeat refine And.intro (by omega) ?_)
                rw [hP a b (by omega) (by omega) (.inr c2)]
                exact ⟨rfl, U4⟩
            · have k1 : (1 : Int) < (M1.getD a []).getD b 0 := by omega
              try simp (disch := first | omega | (simp only [ints_length, List.length_replicate, List.length_set]; done) | (simp only [ints_length, List.length_replicate, List.length_set]; omega)) only [Sall,evalOp,init,binE,binI,unE,convE,okNil,builtE,gv,TD.isAgg,resV,↓reduceIte,Nat.reduceEqDiff,reduceCtorEq,Nat.reduceAdd,Nat.reduceMul,Nat.reduceLeDiff,quietOp,blindOp,Int.reduceEq,Int.reduceLT,Int.reduceLE,Nat.reduceLT,ti2,ti3,ti4,ti79,ti80,ti28,ti25,ti31,ti22,ti33,ti24,ti67,ti111,ti145,ti136,ti137,ti117,ti100, h9, h8, h6, h7, ev6, hr6, hy6, hok6, ey6, hrr6, q6, k1, decide_true, w64]
              (repeat refine And.intro (by omega) ?_)
              rw [hP a b (by omega) (by omega) (.inl c1)]
              exact ⟨rfl, U4⟩
          · try simp (disch := first | omega | (simp only [ints_length, List.length_replicate, List.length_set]; done) | (simp only [ints_length, List.length_replicate, List.length_set]; omega)) only [Sall,evalOp,init,binE,binI,unE,convE,okNil,builtE,gv,TD.isAgg,resV,↓reduceIte,Nat.reduceEqDiff,reduceCtorEq,Nat.reduceAdd,Nat.reduceMul,Nat.reduceLeDiff,quietOp,blindOp,Int.reduceEq,Int.reduceLT,Int.reduceLE,Nat.reduceLT,ti2,ti3,ti4,ti79,ti80,ti28,ti25,ti31,ti22,ti33,ti24,ti67,ti111,ti145,ti136,ti137,ti117,ti100, h8, h6, h7, w64]
            refine ⟨n - (a + 1), by omega, a + 1, rfl, by omega, by omega, fun i hi j hj => ?_⟩
            by_cases e : i = a
            · rw [e]; exact hin2 j (by omega)
            · exact hall i (by omega) j hj
      · try simp (disch := first | omega | (simp only [ints_length, List.length_replicate, List.length_set]; done) | (simp only [ints_length, List.length_replicate, List.length_set]; omega)) only [Sall,evalOp,init,binE,binI,unE,convE,okNil,builtE,gv,TD.isAgg,resV,↓reduceIte,Nat.reduceEqDiff,reduceCtorEq,Nat.reduceAdd,Nat.reduceMul,Nat.reduceLeDiff,quietOp,blindOp,Int.reduceEq,Int.reduceLT,Int.reduceLE,Nat.reduceLT,ti2,ti3,ti4,ti79,ti80,ti28,ti25,ti31,ti22,ti33,ti24,ti67,ti111,ti145,ti136,ti137,ti117,ti100, true_and]
        have ha : a = n := by omega
        subst ha
        rw [eachB_good (p := fun x => decide (x ≤ 1)) (M := M1) (fun i hi j hj => by
            rw [sq6.1] at hi; rw [sq6.2 i hi] at hj
            unfold eachAt; rw [Bool.or_eq_true]; exact .inr (decide_eq_true (hall i hi j hj).1)), eachB_good (p := fun x => decide (x ≤ 2)) (M := M2) (fun i hi j hj => by
            rw [sq7.1] at hi; rw [sq7.2 i hi] at hj
            unfold eachAt; rw [Bool.or_eq_true]; exact .inr (decide_eq_true (hall i hi j hj).2))]
        exact ⟨rfl, U4⟩
end Go.Proofs.Ytbmpkihggipciaa.A
end

section
set_option linter.unusedSimpArgs false
set_option linter.unusedVariables false
set_option maxRecDepth 100000
set_option maxHeartbeats 2000000
namespace Go.Proofs.Ytbmpkihggipciaa.A
open Go Go.Abs Go.RowKit

def FbS (lo : Nat) (H : AH) (w : Value) (b : Bool) (o : Option (List Int)) : Prop := match o with
  | none => b = false
  | some z => b = true ∧ FbR lo H w (some z)

theorem l06Base_c (n : Nat) (hn : n = 4 ∨ n = 5 ∨ n = 8 ∨ n = 9) : ∀ (fuel : Nat) (y : List Int) (v : Value) (lo0 hi0 : Nat) (H : AH), fuel + y.length = n - n % 4 → Fr 1 2 lo0 hi0 H v y.length y → lo0 ≤ hi0 → hi0 ≤ H.next → (∀ x ∈ y, 0 ≤ x ∧ x < (n : Int)) → y.Nodup →
    ACalls Try.prog 77 [.int .i64 n, v] H (fun r H' => ∃ w b, r = .tuple #[w, .bool b] ∧ w.oneCell' = true ∧ Up H.next H H' ∧ FbS lo0 H' w b (fbN n fuel y)) := by
  have hm := mOf_ok hn
  intro fuel
  induction fuel with
  | zero =>
    intro y v lo0 hi0 H hlen hv hlh hhi hy hnd
    have hn16 : 1 ≤ n ∧ n ≤ 9 := by omega
    refine ACalls.wf (by kernel_rfl) fun hs => acalls_of_awp [.tmp 4, .tmp 5] Try.func77 (by kernel_rfl) rfl rfl (Nat.le_of_ble_eq_true rfl) (by kernel_rfl) ?_
    have em2 : Int.tmod (n : Int) 4 = ((n % 4 : Nat) : Int) := rfl
    have hone := hv.rd.one
    have hvl := hv.rd.len
    have e5 : ((y.length : Int) == (n : Int) - ((n % 4 : Nat) : Int)) = true := by rw [beq_iff_eq]; omega
    have hEv := made_ok hn hy (by omega)
    have e0N : fbN n 0 y = if whistB n (madeL (mOf n) y (mOf n)) = true then some y else none := rfl
    have hmade := l06Made_c n (by omega) v y H hv.rd (by omega) hy
    rw [e0N]
    clear e0N
    revert hEv hmade
    generalize madeL (mOf n) y (mOf n) = R
    intro hEv hmade
    try simp (disch := first | omega | (simp only [ints_length, List.length_replicate, List.length_set]; done) | (simp only [ints_length, List.length_replicate, List.length_set]; omega)) only [Sall,evalOp,init,binE,binI,unE,convE,okNil,builtE,gv,TD.isAgg,resV,↓reduceIte,Nat.reduceEqDiff,reduceCtorEq,Nat.reduceAdd,Nat.reduceMul,Nat.reduceLeDiff,quietOp,blindOp,Int.reduceEq,Int.reduceLT,Int.reduceLE,Nat.reduceLT,ti2,ti3,ti4,ti79,ti80,ti28,ti25,ti31,ti22,ti33,ti24,ti67,ti111,ti145,ti136,ti137,ti117,ti100, builtE, hvl, em2, e5, w64]
    refine hmade.ex ?_
    rintro u H2 ⟨up2, f2⟩
    have n2 := up2.next
    have o2 := f2.rd.one
    have hv2 : Fr 1 2 lo0 hi0 H2 v y.length y := hv.same fun i _ hi => up2.row i (by omega)
    try simp (disch := first | omega | (simp only [ints_length, List.length_replicate, List.length_set]; done) | (simp only [ints_length, List.length_replicate, List.length_set]; omega)) only [Sall,evalOp,init,binE,binI,unE,convE,okNil,builtE,gv,TD.isAgg,resV,↓reduceIte,Nat.reduceEqDiff,reduceCtorEq,Nat.reduceAdd,Nat.reduceMul,Nat.reduceLeDiff,quietOp,blindOp,Int.reduceEq,Int.reduceLT,Int.reduceLE,Nat.reduceLT,ti2,ti3,ti4,ti79,ti80,ti28,ti25,ti31,ti22,ti33,ti24,ti67,ti111,ti145,ti136,ti137,ti117,ti100, o2]
    refine (l06Whist_c n (by omega) u R H2 f2.rd hEv).to ?_
    cases hw : whistB n R with
    | true =>
      obtain ⟨fi, k1, k2, ev, k3⟩ := hv2.get (by omega)
      try simp (disch := first | omega | (simp only [ints_length, List.length_replicate, List.length_set]; done) | (simp only [ints_length, List.length_replicate, List.length_set]; omega)) only [Sall,evalOp,init,binE,binI,unE,convE,okNil,builtE,gv,TD.isAgg,resV,↓reduceIte,Nat.reduceEqDiff,reduceCtorEq,Nat.reduceAdd,Nat.reduceMul,Nat.reduceLeDiff,quietOp,blindOp,Int.reduceEq,Int.reduceLT,Int.reduceLE,Nat.reduceLT,ti2,ti3,ti4,ti79,ti80,ti28,ti25,ti31,ti22,ti33,ti24,ti67,ti111,ti145,ti136,ti137,ti117,ti100, hone]
      exact ⟨_, _, rfl, hone, up2, rfl, fi, k1, by omega, ev, k3⟩
    | false =>
      try simp (disch := first | omega | (simp only [ints_length, List.length_replicate, List.length_set]; done) | (simp only [ints_length, List.length_replicate, List.length_set]; omega)) only [Sall,evalOp,init,binE,binI,unE,convE,okNil,builtE,gv,TD.isAgg,resV,↓reduceIte,Nat.reduceEqDiff,reduceCtorEq,Nat.reduceAdd,Nat.reduceMul,Nat.reduceLeDiff,quietOp,blindOp,Int.reduceEq,Int.reduceLT,Int.reduceLE,Nat.reduceLT,ti2,ti3,ti4,ti79,ti80,ti28,ti25,ti31,ti22,ti33,ti24,ti67,ti111,ti145,ti136,ti137,ti117,ti100, hone]
      exact ⟨_, _, rfl, hone, up2, rfl⟩
  | succ f ih =>
    intro y v lo0 hi0 H hlen hv hlh hhi hy hnd
    have hn16 : 1 ≤ n ∧ n ≤ 9 := by omega
    refine ACalls.wf (by kernel_rfl) fun hs => acalls_of_awp [.tmp 4, .tmp 5] Try.func77 (by kernel_rfl) rfl rfl (Nat.le_of_ble_eq_true rfl) (by kernel_rfl) ?_
    have em : Int.tmod (y.length : Int) 4 = ((y.length % 4 : Nat) : Int) := rfl
    have em2 : Int.tmod (n : Int) 4 = ((n % 4 : Nat) : Int) := rfl
    have hone := hv.rd.one
    have hvl := hv.rd.len
    have e5 : ((y.length : Int) == (n : Int) - ((n % 4 : Nat) : Int)) = false := by rw [beq_eq_false_iff_ne]; omega
    -- the end of the tables that are full
    have hcut : (fbN n (f + 1) y = none ∧ y.length % 4 = 0 ∧ 0 < y.length ∧ fitsB n y = false) ∨ (fbN n (f + 1) y = (seqL 0 n).findSome? (fbG n f y) ∧ (y.length % 4 = 0 → 0 < y.length → fitsB n y = true)) := by
      by_cases h : y.length % 4 = 0 ∧ 0 < y.length ∧ fitsB n y = false
      · left
        refine ⟨?_, h⟩
        conv => lhs; unfold fbN
        rw [if_pos h]
      · right
        refine ⟨fbN_succ n f y h, fun h1 h2 => ?_⟩
        cases hf : fitsB n y with
        | true => rfl
        | false => exact absurd ⟨h1, h2, hf⟩ h
    have e00 : ((0 : Int) == 0) = true := rfl
    rw [awp_seq]
    refine awp_cutQ (fun t H' => t 0 = .int .i64 n ∧ t 1 = v ∧ H' = H) ?_ ?_
    · try simp (disch := first | omega | (simp only [ints_length, List.length_replicate, List.length_set]; done) | (simp only [ints_length, List.length_replicate, List.length_set]; omega)) only [Sall,evalOp,init,binE,binI,unE,convE,okNil,builtE,gv,TD.isAgg,resV,↓reduceIte,Nat.reduceEqDiff,reduceCtorEq,Nat.reduceAdd,Nat.reduceMul,Nat.reduceLeDiff,quietOp,blindOp,Int.reduceEq,Int.reduceLT,Int.reduceLE,Nat.reduceLT,ti2,ti3,ti4,ti79,ti80,ti28,ti25,ti31,ti22,ti33,ti24,ti67,ti111,ti145,ti136,ti137,ti117,ti100, true_and]
    rintro t H' ⟨h0, h1, rfl⟩
    rw [awp_seq]
    refine awp_cutQ (fun t H2 => t 0 = .int .i64 n ∧ t 1 = v ∧ H2 = H') ?_ ?_
    · try simp (disch := first | omega | (simp only [ints_length, List.length_replicate, List.length_set]; done) | (simp only [ints_length, List.length_replicate, List.length_set]; omega)) only [Sall,evalOp,init,binE,binI,unE,convE,okNil,builtE,gv,TD.isAgg,resV,↓reduceIte,Nat.reduceEqDiff,reduceCtorEq,Nat.reduceAdd,Nat.reduceMul,Nat.reduceLeDiff,quietOp,blindOp,Int.reduceEq,Int.reduceLT,Int.reduceLE,Nat.reduceLT,ti2,ti3,ti4,ti79,ti80,ti28,ti25,ti31,ti22,ti33,ti24,ti67,ti111,ti145,ti136,ti137,ti117,ti100, h0, h1, builtE, hvl, em2, e5, w64]
    rintro t H2 ⟨h0, h1, rfl⟩
    rw [awp_seq]
    refine awp_cutQ (fun t H3 => t 0 = .int .i64 n ∧ t 1 = v ∧ Up H2.next H2 H3 ∧ fbN n (f + 1) y = (seqL 0 n).findSome? (fbG n f y)) ?_ ?_
    · by_cases h4 : y.length % 4 = 0
      · have e0 : Int.tmod (y.length : Int) 4 = 0 := by rw [em, h4]; rfl
        by_cases h0' : 0 < y.length
        · have k0 : (0 : Int) < (y.length : Int) := by omega
          try simp (disch := first | omega | (simp only [ints_length, List.length_replicate, List.length_set]; done) | (simp only [ints_length, List.length_replicate, List.length_set]; omega)) only [Sall,evalOp,init,binE,binI,unE,convE,okNil,builtE,gv,TD.isAgg,resV,↓reduceIte,Nat.reduceEqDiff,reduceCtorEq,Nat.reduceAdd,Nat.reduceMul,Nat.reduceLeDiff,quietOp,blindOp,Int.reduceEq,Int.reduceLT,Int.reduceLE,Nat.reduceLT,ti2,ti3,ti4,ti79,ti80,ti28,ti25,ti31,ti22,ti33,ti24,ti67,ti111,ti145,ti136,ti137,ti117,ti100, h0, h1, builtE, hvl, e0, e00, k0, decide_true]
          refine (l06Fits_c n hn v y H2 hv.rd (by omega) h4 hy hnd (made_ok hn hy (by omega)) hm).to ?_
          rcases hcut with ⟨c1, _, _, c4⟩ | ⟨c1, c2⟩
          · rw [c4, c1]
            try simp (disch := first | omega | (simp only [ints_length, List.length_replicate, List.length_set]; done) | (simp only [ints_length, List.length_replicate, List.length_set]; omega)) only [Sall,evalOp,init,binE,binI,unE,convE,okNil,builtE,gv,TD.isAgg,resV,↓reduceIte,Nat.reduceEqDiff,reduceCtorEq,Nat.reduceAdd,Nat.reduceMul,Nat.reduceLeDiff,quietOp,blindOp,Int.reduceEq,Int.reduceLT,Int.reduceLE,Nat.reduceLT,ti2,ti3,ti4,ti79,ti80,ti28,ti25,ti31,ti22,ti33,ti24,ti67,ti111,ti145,ti136,ti137,ti117,ti100, Bool.not_false]
            exact ⟨_, _, rfl, rfl, Up.refl _ _, rfl⟩
          · rw [c2 h4 h0']
            try simp (disch := first | omega | (simp only [ints_length, List.length_replicate, List.length_set]; done) | (simp only [ints_length, List.length_replicate, List.length_set]; omega)) only [Sall,evalOp,init,binE,binI,unE,convE,okNil,builtE,gv,TD.isAgg,resV,↓reduceIte,Nat.reduceEqDiff,reduceCtorEq,Nat.reduceAdd,Nat.reduceMul,Nat.reduceLeDiff,quietOp,blindOp,Int.reduceEq,Int.reduceLT,Int.reduceLE,Nat.reduceLT,ti2,ti3,ti4,ti79,ti80,ti28,ti25,ti31,ti22,ti33,ti24,ti67,ti111,ti145,ti136,ti137,ti117,ti100, Bool.not_true, h0, h1]
            exact ⟨Up.refl _ _, c1⟩
        · have k0 : ¬ (0 : Int) < (y.length : Int) := by omega
          have c1 : fbN n (f + 1) y = (seqL 0 n).findSome? (fbG n f y) := by
            rcases hcut with ⟨_, _, c3, _⟩ | ⟨c1, _⟩
            · exact absurd c3 h0'
            · exact c1
          try simp (disch := first | omega | (simp only [ints_length, List.length_replicate, List.length_set]; done) | (simp only [ints_length, List.length_replicate, List.length_set]; omega)) only [Sall,evalOp,init,binE,binI,unE,convE,okNil,builtE,gv,TD.isAgg,resV,↓reduceIte,Nat.reduceEqDiff,reduceCtorEq,Nat.reduceAdd,Nat.reduceMul,Nat.reduceLeDiff,quietOp,blindOp,Int.reduceEq,Int.reduceLT,Int.reduceLE,Nat.reduceLT,ti2,ti3,ti4,ti79,ti80,ti28,ti25,ti31,ti22,ti33,ti24,ti67,ti111,ti145,ti136,ti137,ti117,ti100, h0, h1, builtE, hvl, e0, e00, k0, decide_false]
          exact ⟨Up.refl _ _, c1⟩
      · have e0 : (Int.tmod (y.length : Int) 4 == 0) = false := by rw [em, beq_eq_false_iff_ne]; omega
        have c1 : fbN n (f + 1) y = (seqL 0 n).findSome? (fbG n f y) := by
          rcases hcut with ⟨_, c2, _, _⟩ | ⟨c1, _⟩
          · exact absurd c2 h4
          · exact c1
        try simp (disch := first | omega | (simp only [ints_length, List.length_replicate, List.length_set]; done) | (simp only [ints_length, List.length_replicate, List.length_set]; omega)) only [Sall,evalOp,init,binE,binI,unE,convE,okNil,builtE,gv,TD.isAgg,resV,↓reduceIte,Nat.reduceEqDiff,reduceCtorEq,Nat.reduceAdd,Nat.reduceMul,Nat.reduceLeDiff,quietOp,blindOp,Int.reduceEq,Int.reduceLT,Int.reduceLE,Nat.reduceLT,ti2,ti3,ti4,ti79,ti80,ti28,ti25,ti31,ti22,ti33,ti24,ti67,ti111,ti145,ti136,ti137,ti117,ti100, h0, h1, builtE, hvl, e0]
        exact ⟨Up.refl _ _, c1⟩
    · rintro t H3 ⟨h0, h1, up3, hfb⟩
      rw [hfb]
      try simp (disch := first | omega | (simp only [ints_length, List.length_replicate, List.length_set]; done) | (simp only [ints_length, List.length_replicate, List.length_set]; omega)) only [Sall,evalOp,init,binE,binI,unE,convE,okNil,builtE,gv,TD.isAgg,resV,↓reduceIte,Nat.reduceEqDiff,reduceCtorEq,Nat.reduceAdd,Nat.reduceMul,Nat.reduceLeDiff,quietOp,blindOp,Int.reduceEq,Int.reduceLT,Int.reduceLE,Nat.reduceLT,ti2,ti3,ti4,ti79,ti80,ti28,ti25,ti31,ti22,ti33,ti24,ti67,ti111,ti145,ti136,ti137,ti117,ti100, h0, h1]
      refine awp_loop (fun m t H4 => ∃ a : Nat, m = n - a ∧ a ≤ n ∧ t 6 = .int .i64 a ∧ t 0 = .int .i64 n ∧ t 1 = v ∧ Up H2.next H2 H4 ∧ (∀ j, j < a → fbG n f y (j : Int) = none)) n ?_ ?_
      · refine ⟨0, by omega, by omega, ?_⟩
        try simp (disch := first | omega | (simp only [ints_length, List.length_replicate, List.length_set]; done) | (simp only [ints_length, List.length_replicate, List.length_set]; omega)) only [Sall,evalOp,init,binE,binI,unE,convE,okNil,builtE,gv,TD.isAgg,resV,↓reduceIte,Nat.reduceEqDiff,reduceCtorEq,Nat.reduceAdd,Nat.reduceMul,Nat.reduceLeDiff,quietOp,blindOp,Int.reduceEq,Int.reduceLT,Int.reduceLE,Nat.reduceLT,ti2,ti3,ti4,ti79,ti80,ti28,ti25,ti31,ti22,ti33,ti24,ti67,ti111,ti145,ti136,ti137,ti117,ti100, Int.natCast_zero, h0, h1, Nat.not_lt_zero, false_implies]
        exact up3
      · rintro m t H4 ⟨a, hm', ha, h6, h0, h1, up4, hall⟩
        have hup4 := up4.next
        have hv4 : Fr 1 2 lo0 hi0 H4 v y.length y := hv.same fun i _ hi => up4.row i (by omega)
        have hvl4 := hv4.rd.len
        try simp (disch := first | omega | (simp only [ints_length, List.length_replicate, List.length_set]; done) | (simp only [ints_length, List.length_replicate, List.length_set]; omega)) only [Sall,evalOp,init,binE,binI,unE,convE,okNil,builtE,gv,TD.isAgg,resV,↓reduceIte,Nat.reduceEqDiff,reduceCtorEq,Nat.reduceAdd,Nat.reduceMul,Nat.reduceLeDiff,quietOp,blindOp,Int.reduceEq,Int.reduceLT,Int.reduceLE,Nat.reduceLT,ti2,ti3,ti4,ti79,ti80,ti28,ti25,ti31,ti22,ti33,ti24,ti67,ti111,ti145,ti136,ti137,ti117,ti100, h6, h0]
        refine condC_dec (fun h => ?_) (fun h => ?_)
        · have step : fbG n f y (a : Int) = none → ∀ j, j < a + 1 → fbG n f y (j : Int) = none := fun h j hj => by
            by_cases e : j = a
            · rw [e]; exact h
            · exact hall j (by omega)
          try simp (disch := first | omega | (simp only [ints_length, List.length_replicate, List.length_set]; done) | (simp only [ints_length, List.length_replicate, List.length_set]; omega)) only [Sall,evalOp,init,binE,binI,unE,convE,okNil,builtE,gv,TD.isAgg,resV,↓reduceIte,Nat.reduceEqDiff,reduceCtorEq,Nat.reduceAdd,Nat.reduceMul,Nat.reduceLeDiff,quietOp,blindOp,Int.reduceEq,Int.reduceLT,Int.reduceLE,Nat.reduceLT,ti2,ti3,ti4,ti79,ti80,ti28,ti25,ti31,ti22,ti33,ti24,ti67,ti111,ti145,ti136,ti137,ti117,ti100, h6, h0, h1]
          refine awp_loop (fun m t H5 => ∃ k : Nat, m = y.length - k ∧ k ≤ y.length ∧ t 8 = .int .i64 k ∧ t 7 = .bool ((y.take k).contains (a : Int)) ∧ t 6 = .int .i64 a ∧ t 0 = .int .i64 n ∧ t 1 = v ∧ H5 = H4) y.length ?_ ?_
          · refine ⟨0, by omega, by omega, ?_⟩
            try simp (disch := first | omega | (simp only [ints_length, List.length_replicate, List.length_set]; done) | (simp only [ints_length, List.length_replicate, List.length_set]; omega)) only [Sall,evalOp,init,binE,binI,unE,convE,okNil,builtE,gv,TD.isAgg,resV,↓reduceIte,Nat.reduceEqDiff,reduceCtorEq,Nat.reduceAdd,Nat.reduceMul,Nat.reduceLeDiff,quietOp,blindOp,Int.reduceEq,Int.reduceLT,Int.reduceLE,Nat.reduceLT,ti2,ti3,ti4,ti79,ti80,ti28,ti25,ti31,ti22,ti33,ti24,ti67,ti111,ti145,ti136,ti137,ti117,ti100, Int.natCast_zero, h6, h0, h1]
            rfl
          · rintro m t H5 ⟨k, hm5, hk, h8, h7, h6, h0, h1, rfl⟩
            try simp (disch := first | omega | (simp only [ints_length, List.length_replicate, List.length_set]; done) | (simp only [ints_length, List.length_replicate, List.length_set]; omega)) only [Sall,evalOp,init,binE,binI,unE,convE,okNil,builtE,gv,TD.isAgg,resV,↓reduceIte,Nat.reduceEqDiff,reduceCtorEq,Nat.reduceAdd,Nat.reduceMul,Nat.reduceLeDiff,quietOp,blindOp,Int.reduceEq,Int.reduceLT,Int.reduceLE,Nat.reduceLT,ti2,ti3,ti4,ti79,ti80,ti28,ti25,ti31,ti22,ti33,ti24,ti67,ti111,ti145,ti136,ti137,ti117,ti100, h8, h1, builtE, hvl4]
            refine condC_dec (fun hh => ?_) (fun hh => ?_)
            · obtain ⟨yi, yo, yu, yc, yr, ey, hyr, _, hyg, _⟩ := hv4.rd.get (by omega)
              have g1 := hyg k (by omega)
              have hsn : (y.take (k + 1)).contains (a : Int) = ((y.take k).contains (a : Int) || y.getD k 0 == (a : Int)) := by
                rw [take_snoc y 0 k (by omega), contains_snoc, Bool.beq_comm (a := (a : Int))]
              cases hc : (y.take k).contains (a : Int) with
              | true =>
                rw [hc] at h7 hsn
                try simp (disch := first | omega | (simp only [ints_length, List.length_replicate, List.length_set]; done) | (simp only [ints_length, List.length_replicate, List.length_set]; omega)) only [Sall,evalOp,init,binE,binI,unE,convE,okNil,builtE,gv,TD.isAgg,resV,↓reduceIte,Nat.reduceEqDiff,reduceCtorEq,Nat.reduceAdd,Nat.reduceMul,Nat.reduceLeDiff,quietOp,blindOp,Int.reduceEq,Int.reduceLT,Int.reduceLE,Nat.reduceLT,ti2,ti3,ti4,ti79,ti80,ti28,ti25,ti31,ti22,ti33,ti24,ti67,ti111,ti145,ti136,ti137,ti117,ti100, h8, h7, h6, h0, h1, ey, hyr, g1, w64]
                refine ⟨y.length - (k + 1), by omega, k + 1, rfl, by omega, by omega, ?_⟩
                rw [hsn]; rfl
              | false =>
                rw [hc] at h7 hsn
                try simp (disch := first | omega | (simp only [ints_length, List.length_replicate, List.length_set]; done) | (simp only [ints_length, List.length_replicate, List.length_set]; omega)) only [Sall,evalOp,init,binE,binI,unE,convE,okNil,builtE,gv,TD.isAgg,resV,↓reduceIte,Nat.reduceEqDiff,reduceCtorEq,Nat.reduceAdd,Nat.reduceMul,Nat.reduceLeDiff,quietOp,blindOp,Int.reduceEq,Int.reduceLT,Int.reduceLE,Nat.reduceLT,ti2,ti3,ti4,ti79,ti80,ti28,ti25,ti31,ti22,ti33,ti24,ti67,ti111,ti145,ti136,ti137,ti117,ti100, h8, h7, h6, h0, h1, ey, hyr, g1, w64]
                (repeat refine And.intro (by omega) ?_)
                refine ⟨y.length - (k + 1), by omega, k + 1, rfl, by omega, by omega, ?_⟩
                rw [hsn]; rfl
            · have hk2 : k = y.length := by omega
              subst hk2
              rw [List.take_length] at h7
              cases hcon : y.contains (a : Int) with
              | true =>
                rw [hcon] at h7
                have hno : fbG n f y (a : Int) = none := by unfold fbG; rw [if_pos hcon]
                try simp (disch := first | omega | (simp only [ints_length, List.length_replicate, List.length_set]; done) | (simp only [ints_length, List.length_replicate, List.length_set]; omega)) only [Sall,evalOp,init,binE,binI,unE,convE,okNil,builtE,gv,TD.isAgg,resV,↓reduceIte,Nat.reduceEqDiff,reduceCtorEq,Nat.reduceAdd,Nat.reduceMul,Nat.reduceLeDiff,quietOp,blindOp,Int.reduceEq,Int.reduceLT,Int.reduceLE,Nat.reduceLT,ti2,ti3,ti4,ti79,ti80,ti28,ti25,ti31,ti22,ti33,ti24,ti67,ti111,ti145,ti136,ti137,ti117,ti100, h7, h6, h0, h1, w64]
                exact ⟨n - (a + 1), by omega, a + 1, by omega, by omega, by omega, up4, step hno⟩
              | false =>
                rw [hcon] at h7
                have hgo : fbG n f y (a : Int) = fbN n f (y ++ [(a : Int)]) := by unfold fbG; rw [hcon, if_neg (by simp)]
                have zz : zeros 1 [.int .i64 0] = [.int .i64 0] := rfl
                try simp (disch := first | omega | (simp only [ints_length, List.length_replicate, List.length_set]; done) | (simp only [ints_length, List.length_replicate, List.length_set]; omega)) only [Sall,evalOp,init,binE,binI,unE,convE,okNil,builtE,gv,TD.isAgg,resV,↓reduceIte,Nat.reduceEqDiff,reduceCtorEq,Nat.reduceAdd,Nat.reduceMul,Nat.reduceLeDiff,quietOp,blindOp,Int.reduceEq,Int.reduceLT,Int.reduceLE,Nat.reduceLT,ti2,ti3,ti4,ti79,ti80,ti28,ti25,ti31,ti22,ti33,ti24,ti67,ti111,ti145,ti136,ti137,ti117,ti100, h7, h6, h0, h1]
                refine (l01Own_c v y H5 (Cp.of_fr hv4) (by omega)).mono ?_
                rintro x H6 ⟨up6, hf6⟩
                have n6 := up6.next
                refine Holds.mp ?_
                try simp (disch := first | omega | (simp only [ints_length, List.length_replicate, List.length_set]; done) | (simp only [ints_length, List.length_replicate, List.length_set]; omega)) only [Sall,evalOp,init,binE,binI,unE,convE,okNil,builtE,gv,TD.isAgg,resV,↓reduceIte,Nat.reduceEqDiff,reduceCtorEq,Nat.reduceAdd,Nat.reduceMul,Nat.reduceLeDiff,quietOp,blindOp,Int.reduceEq,Int.reduceLT,Int.reduceLE,Nat.reduceLT,ti2,ti3,ti4,ti79,ti80,ti28,ti25,ti31,ti22,ti33,ti24,ti67,ti111,ti145,ti136,ti137,ti117,ti100, zz, slCells, h6, h0, h1]
                obtain ⟨H7, e7⟩ : ∃ H7, H7 = H6.push ⟨2, true, [.int .i64 a]⟩ := ⟨_, rfl⟩
                have n7 : H7.next = H6.next + 1 := by rw [e7]; rfl
                have s7 : ∀ i, i < H6.next → H7.row i = H6.row i := fun i hi => by rw [e7, AH.push_row, if_neg (by omega)]
                rw [← e7]
                clear e7
                refine appE_fr (k := 1) (lo := H5.next) (hi := H6.next) (l := y) (m := [(a : Int)]) (hf6.same fun i _ hi => s7 i (by omega)) rfl (by omega) rfl (by omega) (by decide) (by omega) (by omega) ?_
                intro v' H8 n8 s8 f8
                have up8 : Up H2.next H2 H8 := ⟨by omega, fun i hi => by rw [s8 i (by omega) (by omega), s7 i (by omega), up6.row i (by omega), up4.row i hi]⟩
                have hrec := ih (y ++ [(a : Int)]) v' H7.next (H7.next + 1) H8 (by rw [List.length_append, List.length_singleton]; omega) (by rw [List.length_append, List.length_singleton]; exact f8) (by omega) (by omega) (fun z hz => by
                  rcases List.mem_append.1 hz with hz | hz
                  · exact hy z hz
                  · rw [List.mem_singleton] at hz; omega) (nodup_snoc.2 ⟨hnd, fun hm => by rw [List.contains_iff_mem.2 hm] at hcon; cases hcon⟩)
                try simp (disch := first | omega | (simp only [ints_length, List.length_replicate, List.length_set]; done) | (simp only [ints_length, List.length_replicate, List.length_set]; omega)) only [Sall,evalOp,init,binE,binI,unE,convE,okNil,builtE,gv,TD.isAgg,resV,↓reduceIte,Nat.reduceEqDiff,reduceCtorEq,Nat.reduceAdd,Nat.reduceMul,Nat.reduceLeDiff,quietOp,blindOp,Int.reduceEq,Int.reduceLT,Int.reduceLE,Nat.reduceLT,ti2,ti3,ti4,ti79,ti80,ti28,ti25,ti31,ti22,ti33,ti24,ti67,ti111,ti145,ti136,ti137,ti117,ti100, h6, h0, h1]
                refine hrec.mono ?_
                rintro r H9 ⟨w, b, er, hw1, up9, hr9⟩
                have n9 := up9.next
                have U9 : Up H2.next H2 H9 := up8.trans up9 (by omega)
                refine Holds.mp ?_
                cases hz : fbN n f (y ++ [(a : Int)]) with
                | none =>
                  rw [hz] at hr9 hgo
                  have eb : b = false := hr9
                  subst eb
                  try simp (disch := first | omega | (simp only [ints_length, List.length_replicate, List.length_set]; done) | (simp only [ints_length, List.length_replicate, List.length_set]; omega)) only [Sall,evalOp,init,binE,binI,unE,convE,okNil,builtE,gv,TD.isAgg,resV,↓reduceIte,Nat.reduceEqDiff,reduceCtorEq,Nat.reduceAdd,Nat.reduceMul,Nat.reduceLeDiff,quietOp,blindOp,Int.reduceEq,Int.reduceLT,Int.reduceLE,Nat.reduceLT,ti2,ti3,ti4,ti79,ti80,ti28,ti25,ti31,ti22,ti33,ti24,ti67,ti111,ti145,ti136,ti137,ti117,ti100, er, hw1, h6, h0, h1, w64]
                  exact ⟨n - (a + 1), by omega, a + 1, by omega, by omega, by omega, U9, step hgo⟩
                | some z =>
                  rw [hz] at hr9 hgo
                  obtain ⟨eb, fi, b1, b2, ew, b3⟩ := hr9
                  subst eb
                  rw [findSome_take (fbG n f y) n a (by omega) hall hgo]
                  try simp (disch := first | omega | (simp only [ints_length, List.length_replicate, List.length_set]; done) | (simp only [ints_length, List.length_replicate, List.length_set]; omega)) only [Sall,evalOp,init,binE,binI,unE,convE,okNil,builtE,gv,TD.isAgg,resV,↓reduceIte,Nat.reduceEqDiff,reduceCtorEq,Nat.reduceAdd,Nat.reduceMul,Nat.reduceLeDiff,quietOp,blindOp,Int.reduceEq,Int.reduceLT,Int.reduceLE,Nat.reduceLT,ti2,ti3,ti4,ti79,ti80,ti28,ti25,ti31,ti22,ti33,ti24,ti67,ti111,ti145,ti136,ti137,ti117,ti100, er, hw1]
                  exact ⟨_, _, rfl, hw1, U9, rfl, fi, by omega, b2, ew, b3⟩
        · have ha2 : a = n := by omega
          subst ha2
          rw [findSome_none (fbG a f y) a hall]
          try simp (disch := first | omega | (simp only [ints_length, List.length_replicate, List.length_set]; done) | (simp only [ints_length, List.length_replicate, List.length_set]; omega)) only [Sall,evalOp,init,binE,binI,unE,convE,okNil,builtE,gv,TD.isAgg,resV,↓reduceIte,Nat.reduceEqDiff,reduceCtorEq,Nat.reduceAdd,Nat.reduceMul,Nat.reduceLeDiff,quietOp,blindOp,Int.reduceEq,Int.reduceLT,Int.reduceLE,Nat.reduceLT,ti2,ti3,ti4,ti79,ti80,ti28,ti25,ti31,ti22,ti33,ti24,ti67,ti111,ti145,ti136,ti137,ti117,ti100, true_and]
          exact ⟨_, _, rfl, rfl, up4, rfl⟩

theorem fbOk_cases {q : Int} (h : fbOk q = true) : ∃ n : Nat, q = n ∧ (n = 4 ∨ n = 5 ∨ n = 8 ∨ n = 9) := by
  have h2 : q = 4 ∨ q = 5 ∨ q = 8 ∨ q = 9 := of_decide_eq_true h
  exact ⟨q.toNat, by omega, by omega⟩

theorem FirstBase_c (q : Int) (H : AH) (hq : -9223372036854775808 ≤ q ∧ q ≤ 9223372036854775807) :
    ACalls Try.prog 31 [.int .i64 q] H (fun r H' => ∃ u, r = .tuple #[u, .int .i64 (fbC q)] ∧ Up H.next H H' ∧ Fr 1 2 H.next H'.next H' u (fbR q).length (fbR q)) := by
  refine ACalls.wf (by kernel_rfl) fun hs => acalls_of_awp [.tmp 2, .tmp 3] Try.func31 (by kernel_rfl) rfl rfl (Nat.le_of_ble_eq_true rfl) (by kernel_rfl) ?_
  have zz : zeros 4 [.int .i64 0] = [.int .i64 0, .int .i64 0, .int .i64 0, .int .i64 0] := rfl
  try simp (disch := first | omega | (simp only [ints_length, List.length_replicate, List.length_set]; done) | (simp only [ints_length, List.length_replicate, List.length_set]; omega)) only [Sall,evalOp,init,binE,binI,unE,convE,okNil,builtE,gv,TD.isAgg,resV,↓reduceIte,Nat.reduceEqDiff,reduceCtorEq,Nat.reduceAdd,Nat.reduceMul,Nat.reduceLeDiff,quietOp,blindOp,Int.reduceEq,Int.reduceLT,Int.reduceLE,Nat.reduceLT,ti2,ti3,ti4,ti79,ti80,ti28,ti25,ti31,ti22,ti33,ti24,ti67,ti111,ti145,ti136,ti137,ti117,ti100, zz, slCells]
  obtain ⟨H1, e1⟩ : ∃ H1, H1 = H.push ⟨2, true, [.int .i64 4, .int .i64 5, .int .i64 8, .int .i64 9]⟩ := ⟨_, rfl⟩
  have up1 : Up H.next H H1 := by rw [e1]; exact (Up.refl _ _).push (Nat.le_refl _) _
  have r1 : H1.row H.next = some ⟨2, true, [.int .i64 4, .int .i64 5, .int .i64 8, .int .i64 9]⟩ := by rw [e1, AH.push_row, if_pos rfl]
  have n1 : H1.next = H.next + 1 := by rw [e1]; rfl
  rw [← e1]
  clear e1
  refine (containsI_c (.slice (some ⟨H.next, 0, some 1⟩) 4 4) [4, 5, 8, 9] q H1 ⟨rfl, .inr ⟨H.next, 0, _, _, _, rfl, r1, Nat.le_refl _, rfl⟩⟩ (by decide)).to ?_
  have hcon : ([4, 5, 8, 9] : List Int).contains q = fbOk q := by
    unfold fbOk
    rw [Bool.eq_iff_iff, List.contains_iff_mem, decide_eq_true_iff]
    simp
  rw [hcon]
  unfold fbC fbR fbO
  cases hok : fbOk q with
  | false =>
    try simp (disch := first | omega | (simp only [ints_length, List.length_replicate, List.length_set]; done) | (simp only [ints_length, List.length_replicate, List.length_set]; omega)) only [Sall,evalOp,init,binE,binI,unE,convE,okNil,builtE,gv,TD.isAgg,resV,↓reduceIte,Nat.reduceEqDiff,reduceCtorEq,Nat.reduceAdd,Nat.reduceMul,Nat.reduceLeDiff,quietOp,blindOp,Int.reduceEq,Int.reduceLT,Int.reduceLE,Nat.reduceLT,ti2,ti3,ti4,ti79,ti80,ti28,ti25,ti31,ti22,ti33,ti24,ti67,ti111,ti145,ti136,ti137,ti117,ti100, Bool.not_false]
    exact ⟨_, rfl, up1, ⟨rfl, .inl ⟨rfl, rfl⟩⟩⟩
  | true =>
    obtain ⟨n, rfl, hn⟩ := fbOk_cases hok
    rw [if_pos rfl, if_pos rfl, Int.toNat_natCast]
    try simp (disch := first | omega | (simp only [ints_length, List.length_replicate, List.length_set]; done) | (simp only [ints_length, List.length_replicate, List.length_set]; omega)) only [Sall,evalOp,init,binE,binI,unE,convE,okNil,builtE,gv,TD.isAgg,resV,↓reduceIte,Nat.reduceEqDiff,reduceCtorEq,Nat.reduceAdd,Nat.reduceMul,Nat.reduceLeDiff,quietOp,blindOp,Int.reduceEq,Int.reduceLT,Int.reduceLE,Nat.reduceLT,ti2,ti3,ti4,ti79,ti80,ti28,ti25,ti31,ti22,ti33,ti24,ti67,ti111,ti145,ti136,ti137,ti117,ti100, Bool.not_true]
    refine (firstBase_c n hn (n - n % 4) [] (.slice none 0 0) H1.next H1.next H1 (by simp) ⟨rfl, .inl ⟨rfl, rfl⟩⟩ (Nat.le_refl _) (Nat.le_refl _) (by simp)).mono ?_
    rintro r H2 ⟨up2, hr⟩
    have n2 := up2.next
    have U2 : Up H.next H H2 := up1.trans up2 (by omega)
    refine Holds.mp ?_
    cases hz : fbN n (n - n % 4) [] with
    | none =>
      rw [hz] at hr
      have er : r = .slice none 0 0 := hr
      try simp (disch := first | omega | (simp only [ints_length, List.length_replicate, List.length_set]; done) | (simp only [ints_length, List.length_replicate, List.length_set]; omega)) only [Sall,evalOp,init,binE,binI,unE,convE,okNil,builtE,gv,TD.isAgg,resV,↓reduceIte,Nat.reduceEqDiff,reduceCtorEq,Nat.reduceAdd,Nat.reduceMul,Nat.reduceLeDiff,quietOp,blindOp,Int.reduceEq,Int.reduceLT,Int.reduceLE,Nat.reduceLT,ti2,ti3,ti4,ti79,ti80,ti28,ti25,ti31,ti22,ti33,ti24,ti67,ti111,ti145,ti136,ti137,ti117,ti100, er, binE, Option.isNone_none]
      exact ⟨_, rfl, U2, ⟨rfl, .inl ⟨rfl, rfl⟩⟩⟩
    | some z =>
      rw [hz] at hr
      obtain ⟨fi, b1, b2, er, b3⟩ := hr
      try simp (disch := first | omega | (simp only [ints_length, List.length_replicate, List.length_set]; done) | (simp only [ints_length, List.length_replicate, List.length_set]; omega)) only [Sall,evalOp,init,binE,binI,unE,convE,okNil,builtE,gv,TD.isAgg,resV,↓reduceIte,Nat.reduceEqDiff,reduceCtorEq,Nat.reduceAdd,Nat.reduceMul,Nat.reduceLeDiff,quietOp,blindOp,Int.reduceEq,Int.reduceLT,Int.reduceLE,Nat.reduceLT,ti2,ti3,ti4,ti79,ti80,ti28,ti25,ti31,ti22,ti33,ti24,ti67,ti111,ti145,ti136,ti137,ti117,ti100, er, binE, Option.isNone_some]
      exact ⟨_, rfl, U2, ⟨by simp, .inr ⟨fi, by omega, b2, rfl, b3⟩⟩⟩

theorem specFirstBase_c (q : Int) (H : AH) (hq : -9223372036854775808 ≤ q ∧ q ≤ 9223372036854775807) :
    ACalls Try.prog 30 [.int .i64 q] H (fun r H' => ∃ u, r = .tuple #[u, .int .i64 (fbC q)] ∧ Up H.next H H' ∧ Fr 1 2 H.next H'.next H' u (fbR q).length (fbR q)) := by
  refine ACalls.wf (by kernel_rfl) fun hs => acalls_of_awp [.tmp 2, .tmp 3] Try.func30 (by kernel_rfl) rfl rfl (Nat.le_of_ble_eq_true rfl) (by kernel_rfl) ?_
  unfold fbC fbR fbO
  cases hok : fbOk q with
  | false =>
    have h2 : ¬ (q = 4 ∨ q = 5 ∨ q = 8 ∨ q = 9) := of_decide_eq_false hok
    have e4 : (q != 4) = true := by rw [bne_iff_ne]; omega
    have e5 : (q != 5) = true := by rw [bne_iff_ne]; omega
    have e8 : (q != 8) = true := by rw [bne_iff_ne]; omega
    have e9 : (q != 9) = true := by rw [bne_iff_ne]; omega
    try simp (disch := first | omega | (simp only [ints_length, List.length_replicate, List.length_set]; done) | (simp only [ints_length, List.length_replicate, List.length_set]; omega)) only [Sall,evalOp,init,binE,binI,unE,convE,okNil,builtE,gv,TD.isAgg,resV,↓reduceIte,Nat.reduceEqDiff,reduceCtorEq,Nat.reduceAdd,Nat.reduceMul,Nat.reduceLeDiff,quietOp,blindOp,Int.reduceEq,Int.reduceLT,Int.reduceLE,Nat.reduceLT,ti2,ti3,ti4,ti79,ti80,ti28,ti25,ti31,ti22,ti33,ti24,ti67,ti111,ti145,ti136,ti137,ti117,ti100, e4, e5, e8, e9]
    exact ⟨_, rfl, Up.refl _ _, ⟨rfl, .inl ⟨rfl, rfl⟩⟩⟩
  | true =>
    obtain ⟨n, rfl, hn⟩ := fbOk_cases hok
    rw [if_pos rfl, if_pos rfl, Int.toNat_natCast]
    have hneq : (((n : Int) != 4) = false ∧ ((n : Int) != 5) = true ∧ ((n : Int) != 8) = true ∧ ((n : Int) != 9) = true) ∨ (((n : Int) != 4) = true ∧ ((n : Int) != 5) = false ∧ ((n : Int) != 8) = true ∧ ((n : Int) != 9) = true) ∨ (((n : Int) != 4) = true ∧ ((n : Int) != 5) = true ∧ ((n : Int) != 8) = false ∧ ((n : Int) != 9) = true) ∨ (((n : Int) != 4) = true ∧ ((n : Int) != 5) = true ∧ ((n : Int) != 8) = true ∧ ((n : Int) != 9) = false) := by
      rcases hn with rfl | rfl | rfl | rfl
      · exact .inl ⟨rfl, rfl, rfl, rfl⟩
      · exact .inr (.inl ⟨rfl, rfl, rfl, rfl⟩)
      · exact .inr (.inr (.inl ⟨rfl, rfl, rfl, rfl⟩))
      · exact .inr (.inr (.inr ⟨rfl, rfl, rfl, rfl⟩))
    obtain ⟨H1, e1⟩ : ∃ H1, H1 = H.push ⟨2, true, []⟩ := ⟨_, rfl⟩
    have up1 : Up H.next H H1 := by rw [e1]; exact (Up.refl _ _).push (Nat.le_refl _) _
    have r1 : H1.row H.next = some ⟨2, true, []⟩ := by rw [e1, AH.push_row, if_pos rfl]
    have n1 : H1.next = H.next + 1 := by rw [e1]; rfl
    have hrec := l06Base_c n hn (n - n % 4) [] (.slice (some ⟨H.next, 0, some 1⟩) 0 0) H.next H1.next H1 (by simp) ⟨rfl, .inr ⟨H.next, Nat.le_refl _, by omega, rfl, r1⟩⟩ (by omega) (Nat.le_refl _) (by simp) (by simp)
    refine Holds.mp ?_
    rcases hneq with ⟨e4, e5, e8, e9⟩ | ⟨e4, e5, e8, e9⟩ | ⟨e4, e5, e8, e9⟩ | ⟨e4, e5, e8, e9⟩ <;> rw [holds_def]
    all_goals
      try simp (disch := first | omega | (simp only [ints_length, List.length_replicate, List.length_set]; done) | (simp only [ints_length, List.length_replicate, List.length_set]; omega)) only [Sall,evalOp,init,binE,binI,unE,convE,okNil,builtE,gv,TD.isAgg,resV,↓reduceIte,Nat.reduceEqDiff,reduceCtorEq,Nat.reduceAdd,Nat.reduceMul,Nat.reduceLeDiff,quietOp,blindOp,Int.reduceEq,Int.reduceLT,Int.reduceLE,Nat.reduceLT,ti2,ti3,ti4,ti79,ti80,ti28,ti25,ti31,ti22,ti33,ti24,ti67,ti111,ti145,ti136,ti137,ti117,ti100, e4, e5, e8, e9, zeros_zero]
      rw [← e1]
      refine hrec.mono ?_
      rintro r H2 ⟨w, b, er, hw1, up2, hr⟩
      have n2 := up2.next
      have U2 : Up H.next H H2 := up1.trans up2 (by omega)
      refine Holds.mp ?_
      cases hz : fbN n (n - n % 4) [] with
      | none =>
        rw [hz] at hr
        have eb : b = false := hr
        subst eb
        try simp (disch := first | omega | (simp only [ints_length, List.length_replicate, List.length_set]; done) | (simp only [ints_length, List.length_replicate, List.length_set]; omega)) only [Sall,evalOp,init,binE,binI,unE,convE,okNil,builtE,gv,TD.isAgg,resV,↓reduceIte,Nat.reduceEqDiff,reduceCtorEq,Nat.reduceAdd,Nat.reduceMul,Nat.reduceLeDiff,quietOp,blindOp,Int.reduceEq,Int.reduceLT,Int.reduceLE,Nat.reduceLT,ti2,ti3,ti4,ti79,ti80,ti28,ti25,ti31,ti22,ti33,ti24,ti67,ti111,ti145,ti136,ti137,ti117,ti100, er, hw1, Bool.not_false]
        exact ⟨_, rfl, U2, ⟨rfl, .inl ⟨rfl, rfl⟩⟩⟩
      | some z =>
        rw [hz] at hr
        obtain ⟨eb, fi, b1, b2, ew, b3⟩ := hr
        subst eb
        try simp (disch := first | omega | (simp only [ints_length, List.length_replicate, List.length_set]; done) | (simp only [ints_length, List.length_replicate, List.length_set]; omega)) only [Sall,evalOp,init,binE,binI,unE,convE,okNil,builtE,gv,TD.isAgg,resV,↓reduceIte,Nat.reduceEqDiff,reduceCtorEq,Nat.reduceAdd,Nat.reduceMul,Nat.reduceLeDiff,quietOp,blindOp,Int.reduceEq,Int.reduceLT,Int.reduceLE,Nat.reduceLT,ti2,ti3,ti4,ti79,ti80,ti28,ti25,ti31,ti22,ti33,ti24,ti67,ti111,ti145,ti136,ti137,ti117,ti100, er, hw1, Bool.not_true]
        exact ⟨_, rfl, U2, ⟨by simp, .inr ⟨fi, b1, b2, ew, b3⟩⟩⟩
end Go.Proofs.Ytbmpkihggipciaa.A
end

section
set_option linter.unusedSimpArgs false
set_option linter.unusedVariables false
set_option maxRecDepth 100000
namespace Go.Proofs.Ytbmpkihggipciaa.A
open Go Go.Abs Go.RowKit

theorem eqRound_c (l : List Int) (hl : l.length = 14) (H : AH) : ACalls Try.prog 123 [.agg (ints l).toArray, .agg (ints l).toArray] H (is (.bool true) H) := by
  refine acalls_up rfl (acalls_of_awp [.tmp 4] Try.func123 (by kernel_rfl) rfl rfl (Nat.le_of_ble_eq_true rfl) (by kernel_rfl) ?_)
  try simp (disch := first | omega | (simp only [ints_length, List.length_replicate]; done) | (simp only [ints_length, List.length_replicate]; omega)) only [Sall,evalOp,init,binE,binI,unE,convE,okNil,builtE,gv,TD.isAgg,resV,↓reduceIte,Nat.reduceEqDiff,reduceCtorEq,Nat.reduceAdd,Nat.reduceMul,Nat.reduceLeDiff,quietOp,blindOp,Int.reduceEq,Int.reduceLT,Int.reduceLE,Nat.reduceLT,ti2,ti3,ti4,ti79,ti80,ti28,ti25,ti31,ti22,ti33,ti24,ti67,ti111,ti145,ti136,ti137,ti117,ti100, true_and]
  refine awp_loop (fun m t H' => ∃ a : Int, m = (14 - a).toNat ∧ 0 ≤ a ∧ a ≤ 14 ∧ t 5 = .int .i64 a ∧ t 2 = .pointer (some ⟨H.next, 0, none⟩) ∧ t 3 = .pointer (some ⟨H.next + 1, 0, none⟩) ∧ Up H.next H H' ∧
    H'.row H.next = some ⟨80, true, ints l⟩ ∧ H'.row (H.next + 1) = some ⟨80, true, ints l⟩) 14 ?_ ?_
  · refine ⟨0, by omega, by omega, by omega, ?_⟩
    try simp (disch := first | omega | (simp only [ints_length, List.length_replicate]; done) | (simp only [ints_length, List.length_replicate]; omega)) only [Sall,evalOp,init,binE,binI,unE,convE,okNil,builtE,gv,TD.isAgg,resV,↓reduceIte,Nat.reduceEqDiff,reduceCtorEq,Nat.reduceAdd,Nat.reduceMul,Nat.reduceLeDiff,quietOp,blindOp,Int.reduceEq,Int.reduceLT,Int.reduceLE,Nat.reduceLT,ti2,ti3,ti4,ti79,ti80,ti28,ti25,ti31,ti22,ti33,ti24,ti67,ti111,ti145,ti136,ti137,ti117,ti100, true_and]
    exact ((Up.refl _ H).push (by omega) _).push (Nat.le_succ _) _
  · rintro m t H' ⟨a, hm, h0, h14, h5, h2, h3, hup, hr0, hr1⟩
    try simp (disch := first | omega | (simp only [ints_length, List.length_replicate]; done) | (simp only [ints_length, List.length_replicate]; omega)) only [Sall,evalOp,init,binE,binI,unE,convE,okNil,builtE,gv,TD.isAgg,resV,↓reduceIte,Nat.reduceEqDiff,reduceCtorEq,Nat.reduceAdd,Nat.reduceMul,Nat.reduceLeDiff,quietOp,blindOp,Int.reduceEq,Int.reduceLT,Int.reduceLE,Nat.reduceLT,ti2,ti3,ti4,ti79,ti80,ti28,ti25,ti31,ti22,ti33,ti24,ti67,ti111,ti145,ti136,ti137,ti117,ti100, h5]
    refine condC_dec (fun h => ?_) (fun h => ?_)
    · skip
      try simp (disch := first | omega | (simp only [ints_length, List.length_replicate]; done) | (simp only [ints_length, List.length_replicate]; omega)) only [Sall,evalOp,init,binE,binI,unE,convE,okNil,builtE,gv,TD.isAgg,resV,↓reduceIte,Nat.reduceEqDiff,reduceCtorEq,Nat.reduceAdd,Nat.reduceMul,Nat.reduceLeDiff,quietOp,blindOp,Int.reduceEq,Int.reduceLT,Int.reduceLE,Nat.reduceLT,ti2,ti3,ti4,ti79,ti80,ti28,ti25,ti31,ti22,ti33,ti24,ti67,ti111,ti145,ti136,ti137,ti117,ti100, h5]
      refine draw_id (by kernel_rfl) (by kernel_rfl) ?_
      try simp (disch := first | omega | (simp only [ints_length, List.length_replicate]; done) | (simp only [ints_length, List.length_replicate]; omega)) only [Sall,evalOp,init,binE,binI,unE,convE,okNil,builtE,gv,TD.isAgg,resV,↓reduceIte,Nat.reduceEqDiff,reduceCtorEq,Nat.reduceAdd,Nat.reduceMul,Nat.reduceLeDiff,quietOp,blindOp,Int.reduceEq,Int.reduceLT,Int.reduceLE,Nat.reduceLT,ti2,ti3,ti4,ti79,ti80,ti28,ti25,ti31,ti22,ti33,ti24,ti67,ti111,ti145,ti136,ti137,ti117,ti100, h5, h2, h3, hr0, hr1, ints_get?, bne_self_eq_false, w64]
      refine ⟨⟨h0, by omega⟩, ⟨h0, by omega⟩, (14 - (a + 1)).toNat, by omega, a + 1, rfl, by omega, by omega, rfl, hup⟩
    · try simp (disch := first | omega | (simp only [ints_length, List.length_replicate]; done) | (simp only [ints_length, List.length_replicate]; omega)) only [Sall,evalOp,init,binE,binI,unE,convE,okNil,builtE,gv,TD.isAgg,resV,↓reduceIte,Nat.reduceEqDiff,reduceCtorEq,Nat.reduceAdd,Nat.reduceMul,Nat.reduceLeDiff,quietOp,blindOp,Int.reduceEq,Int.reduceLT,Int.reduceLE,Nat.reduceLT,ti2,ti3,ti4,ti79,ti80,ti28,ti25,ti31,ti22,ti33,ti24,ti67,ti111,ti145,ti136,ti137,ti117,ti100, true_and]
      exact hup

theorem eqRoundS_c (va vb : Value) (n : Nat) (l : List Int) (hn : n ≤ 4294967296) (H : AH) (ha : Rd 14 H va n l) (hb : Rd 14 H vb n l) : ACalls Try.prog 61 [va, vb] H (is (.bool true) H) := by
  refine acalls_up rfl (acalls_of_awp [.tmp 4] Try.func61 (by kernel_rfl) rfl rfl (Nat.le_of_ble_eq_true rfl) (by kernel_rfl) ?_)
  try simp (disch := first | omega | (simp only [ints_length, List.length_replicate]; done) | (simp only [ints_length, List.length_replicate]; omega)) only [Sall,evalOp,init,binE,binI,unE,convE,okNil,builtE,gv,TD.isAgg,resV,↓reduceIte,Nat.reduceEqDiff,reduceCtorEq,Nat.reduceAdd,Nat.reduceMul,Nat.reduceLeDiff,quietOp,blindOp,Int.reduceEq,Int.reduceLT,Int.reduceLE,Nat.reduceLT,ti2,ti3,ti4,ti79,ti80,ti28,ti25,ti31,ti22,ti33,ti24,ti67,ti111,ti145,ti136,ti137,ti117,ti100, builtE, ha.len, hb.len, bne_self_eq_false]
  refine awp_loop (fun m t H' => ∃ a : Int, m = (n - a).toNat ∧ 0 ≤ a ∧ a ≤ n ∧ t 5 = .int .i64 a ∧ t 0 = va ∧ t 1 = vb ∧ H' = H) n ?_ ?_
  · refine ⟨0, by omega, by omega, by omega, ?_⟩
    try simp (disch := first | omega | (simp only [ints_length, List.length_replicate]; done) | (simp only [ints_length, List.length_replicate]; omega)) only [Sall,evalOp,init,binE,binI,unE,convE,okNil,builtE,gv,TD.isAgg,resV,↓reduceIte,Nat.reduceEqDiff,reduceCtorEq,Nat.reduceAdd,Nat.reduceMul,Nat.reduceLeDiff,quietOp,blindOp,Int.reduceEq,Int.reduceLT,Int.reduceLE,Nat.reduceLT,ti2,ti3,ti4,ti79,ti80,ti28,ti25,ti31,ti22,ti33,ti24,ti67,ti111,ti145,ti136,ti137,ti117,ti100, true_and]
  · rintro m t H' ⟨a, hm, h0, h14, h5, h2, h3, rfl⟩
    try simp (disch := first | omega | (simp only [ints_length, List.length_replicate]; done) | (simp only [ints_length, List.length_replicate]; omega)) only [Sall,evalOp,init,binE,binI,unE,convE,okNil,builtE,gv,TD.isAgg,resV,↓reduceIte,Nat.reduceEqDiff,reduceCtorEq,Nat.reduceAdd,Nat.reduceMul,Nat.reduceLeDiff,quietOp,blindOp,Int.reduceEq,Int.reduceLT,Int.reduceLE,Nat.reduceLT,ti2,ti3,ti4,ti79,ti80,ti28,ti25,ti31,ti22,ti33,ti24,ti67,ti111,ti145,ti136,ti137,ti117,ti100, h5, h2, builtE, ha.len]
    refine condC_dec (fun h => ?_) (fun h => ?_)
    · obtain ⟨i, o, u, c, r, rfl, hr, hc, hs, hg⟩ := ha.get (by omega)
      obtain ⟨i', o', u', c', r', rfl, hr', hc', hs', hg'⟩ := hb.get (by omega)
      try simp (disch := first | omega | (simp only [ints_length, List.length_replicate]; done) | (simp only [ints_length, List.length_replicate]; omega)) only [Sall,evalOp,init,binE,binI,unE,convE,okNil,builtE,gv,TD.isAgg,resV,↓reduceIte,Nat.reduceEqDiff,reduceCtorEq,Nat.reduceAdd,Nat.reduceMul,Nat.reduceLeDiff,quietOp,blindOp,Int.reduceEq,Int.reduceLT,Int.reduceLE,Nat.reduceLT,ti2,ti3,ti4,ti79,ti80,ti28,ti25,ti31,ti22,ti33,ti24,ti67,ti111,ti145,ti136,ti137,ti117,ti100, h5]
      refine draw_id (by kernel_rfl) (by kernel_rfl) ?_
      try simp (disch := first | omega | (simp only [ints_length, List.length_replicate]; done) | (simp only [ints_length, List.length_replicate]; omega)) only [Sall,evalOp,init,binE,binI,unE,convE,okNil,builtE,gv,TD.isAgg,resV,↓reduceIte,Nat.reduceEqDiff,reduceCtorEq,Nat.reduceAdd,Nat.reduceMul,Nat.reduceLeDiff,quietOp,blindOp,Int.reduceEq,Int.reduceLT,Int.reduceLE,Nat.reduceLT,ti2,ti3,ti4,ti79,ti80,ti28,ti25,ti31,ti22,ti33,ti24,ti67,ti111,ti145,ti136,ti137,ti117,ti100, h5, h2, h3, hr, hr', hg, hg']
      refine ⟨⟨h0, h⟩, by omega, ⟨h0, h⟩, by omega, (eqRound_c _ ?_ H').to ⟨.inr (.inr (LE.refl _)), ?_⟩⟩
      · rw [List.length_take, List.length_drop, ha.1]; omega
      · try simp (disch := first | omega | (simp only [ints_length, List.length_replicate]; done) | (simp only [ints_length, List.length_replicate]; omega)) only [Sall,evalOp,init,binE,binI,unE,convE,okNil,builtE,gv,TD.isAgg,resV,↓reduceIte,Nat.reduceEqDiff,reduceCtorEq,Nat.reduceAdd,Nat.reduceMul,Nat.reduceLeDiff,quietOp,blindOp,Int.reduceEq,Int.reduceLT,Int.reduceLE,Nat.reduceLT,ti2,ti3,ti4,ti79,ti80,ti28,ti25,ti31,ti22,ti33,ti24,ti67,ti111,ti145,ti136,ti137,ti117,ti100, Bool.not_true, w64, h5, h2, h3]
        refine ⟨(n - (a + 1)).toNat, by omega, a + 1, rfl, by omega, by omega, rfl⟩
    · try simp (disch := first | omega | (simp only [ints_length, List.length_replicate]; done) | (simp only [ints_length, List.length_replicate]; omega)) only [Sall,evalOp,init,binE,binI,unE,convE,okNil,builtE,gv,TD.isAgg,resV,↓reduceIte,Nat.reduceEqDiff,reduceCtorEq,Nat.reduceAdd,Nat.reduceMul,Nat.reduceLeDiff,quietOp,blindOp,Int.reduceEq,Int.reduceLT,Int.reduceLE,Nat.reduceLT,ti2,ti3,ti4,ti79,ti80,ti28,ti25,ti31,ti22,ti33,ti24,ti67,ti111,ti145,ti136,ti137,ti117,ti100, true_and]
      exact Up.refl _ _

/-- A schedule as it is handed on: its teams and its rounds. -/
def schedV (n : Int) (v : Value) : Value := .agg #[.int .i64 n, v]

theorem eqSchedule_c (va vb : Value) (q : Int) (n : Nat) (l : List Int) (hn : n ≤ 4294967296) (H : AH) (ha : Rd 14 H va n l) (hb : Rd 14 H vb n l) (h1 : va.oneCell' = true) (h2 : vb.oneCell' = true) :
    ACalls Try.prog 22 [.agg #[.int .i64 q, va], .agg #[.int .i64 q, vb]] H (is (.bool true) H) := by
  refine ACalls.wf (by kernel_rfl) fun hs => acalls_up rfl (acalls_of_awp [.tmp 4] Try.func22 (by kernel_rfl) rfl rfl (Nat.le_of_ble_eq_true rfl) (by kernel_rfl) ?_)
  try simp (disch := first | omega | (simp only [ints_length, List.length_replicate]; done) | (simp only [ints_length, List.length_replicate]; omega)) only [Sall,evalOp,init,binE,binI,unE,convE,okNil,builtE,gv,TD.isAgg,resV,↓reduceIte,Nat.reduceEqDiff,reduceCtorEq,Nat.reduceAdd,Nat.reduceMul,Nat.reduceLeDiff,quietOp,blindOp,Int.reduceEq,Int.reduceLT,Int.reduceLE,Nat.reduceLT,ti2,ti3,ti4,ti79,ti80,ti28,ti25,ti31,ti22,ti33,ti24,ti67,ti111,ti145,ti136,ti137,ti117,ti100, bne_self_eq_false]
  have up : Up H.next H ((H.push ⟨33, true, [.int .i64 q, va]⟩).push ⟨33, true, [.int .i64 q, vb]⟩) := ((Up.refl _ H).push (Nat.le_refl _) _).push (Nat.le_succ _) _
  refine (eqRoundS_c va vb n l hn _ (ha.same (up.le hs).row) (hb.same (up.le hs).row)).to ?_
  try simp (disch := first | omega | (simp only [ints_length, List.length_replicate]; done) | (simp only [ints_length, List.length_replicate]; omega)) only [Sall,evalOp,init,binE,binI,unE,convE,okNil,builtE,gv,TD.isAgg,resV,↓reduceIte,Nat.reduceEqDiff,reduceCtorEq,Nat.reduceAdd,Nat.reduceMul,Nat.reduceLeDiff,quietOp,blindOp,Int.reduceEq,Int.reduceLT,Int.reduceLE,Nat.reduceLT,ti2,ti3,ti4,ti79,ti80,ti28,ti25,ti31,ti22,ti33,ti24,ti67,ti111,ti145,ti136,ti137,ti117,ti100, Bool.not_true]
  exact up

/-! ### Marks -/
theorem markRoundS_c (ty lo hi : Nat) (v : Value) (n : Nat) (l : List Int) (k0 : Int) (hk : 0 ≤ k0 ∧ k0 ≤ 4294967296) (hn : n ≤ 4294967296) (H : AH) (hv : Fr 14 ty lo hi H v n l) :
    ACalls Try.prog 62 [v, .int .i64 k0] H (fun r H' => r = .int .i64 (k0 + n * 14) ∧ H.next ≤ H'.next ∧ (∀ i, ¬(lo ≤ i ∧ i < hi) → i < H.next → H'.row i = H.row i) ∧ Fr 14 ty lo hi H' v n (seqL k0 (n * 14))) := by
  refine acalls_of_awp [.tmp 4] Try.func62 (by kernel_rfl) rfl rfl (Nat.le_of_ble_eq_true rfl) (by kernel_rfl) ?_
  try simp (disch := first | omega | (simp only [ints_length, List.length_replicate]; done) | (simp only [ints_length, List.length_replicate]; omega)) only [Sall,evalOp,init,binE,binI,unE,convE,okNil,builtE,gv,TD.isAgg,resV,↓reduceIte,Nat.reduceEqDiff,reduceCtorEq,Nat.reduceAdd,Nat.reduceMul,Nat.reduceLeDiff,quietOp,blindOp,Int.reduceEq,Int.reduceLT,Int.reduceLE,Nat.reduceLT,ti2,ti3,ti4,ti79,ti80,ti28,ti25,ti31,ti22,ti33,ti24,ti67,ti111,ti145,ti136,ti137,ti117,ti100, true_and]
  refine awp_loop (fun m t H' => ∃ a : Nat, m = n - a ∧ a ≤ n ∧ t 5 = .int .i64 a ∧ t 1 = .int .i64 (k0 + a * 14) ∧ t 0 = v ∧ H'.next = H.next ∧ (∀ i, ¬(lo ≤ i ∧ i < hi) → H'.row i = H.row i) ∧ Fr 14 ty lo hi H' v n (markL k0 l (a * 14))) n ?_ ?_
  · refine ⟨0, by omega, by omega, ?_⟩
    try simp (disch := first | omega | (simp only [ints_length, List.length_replicate]; done) | (simp only [ints_length, List.length_replicate]; omega)) only [Sall,evalOp,init,binE,binI,unE,convE,okNil,builtE,gv,TD.isAgg,resV,↓reduceIte,Nat.reduceEqDiff,reduceCtorEq,Nat.reduceAdd,Nat.reduceMul,Nat.reduceLeDiff,quietOp,blindOp,Int.reduceEq,Int.reduceLT,Int.reduceLE,Nat.reduceLT,ti2,ti3,ti4,ti79,ti80,ti28,ti25,ti31,ti22,ti33,ti24,ti67,ti111,ti145,ti136,ti137,ti117,ti100, Nat.zero_mul, markL_zero, Int.natCast_zero]
    exact ⟨by omega, hv⟩
  · rintro m t H' ⟨a, hm, h14, h5, h1, h0, hnx, hsm, hfr⟩
    try simp (disch := first | omega | (simp only [ints_length, List.length_replicate]; done) | (simp only [ints_length, List.length_replicate]; omega)) only [Sall,evalOp,init,binE,binI,unE,convE,okNil,builtE,gv,TD.isAgg,resV,↓reduceIte,Nat.reduceEqDiff,reduceCtorEq,Nat.reduceAdd,Nat.reduceMul,Nat.reduceLeDiff,quietOp,blindOp,Int.reduceEq,Int.reduceLT,Int.reduceLE,Nat.reduceLT,ti2,ti3,ti4,ti79,ti80,ti28,ti25,ti31,ti22,ti33,ti24,ti67,ti111,ti145,ti136,ti137,ti117,ti100, h5, h1, h0, builtE, hfr.rd.len]
    refine condC_dec (fun h => ?_) (fun h => ?_)
    · try simp (disch := first | omega | (simp only [ints_length, List.length_replicate]; done) | (simp only [ints_length, List.length_replicate]; omega)) only [Sall,evalOp,init,binE,binI,unE,convE,okNil,builtE,gv,TD.isAgg,resV,↓reduceIte,Nat.reduceEqDiff,reduceCtorEq,Nat.reduceAdd,Nat.reduceMul,Nat.reduceLeDiff,quietOp,blindOp,Int.reduceEq,Int.reduceLT,Int.reduceLE,Nat.reduceLT,ti2,ti3,ti4,ti79,ti80,ti28,ti25,ti31,ti22,ti33,ti24,ti67,ti111,ti145,ti136,ti137,ti117,ti100, h5, h1, h0]
      obtain ⟨i, hi1, hi2, rfl, hr⟩ := hfr.get (by omega)
      have hl := hv.1
      refine awp_loop (fun m' t H' => ∃ b : Nat, m' = 14 - b ∧ b ≤ 14 ∧ t 6 = .int .i64 b ∧ t 5 = .int .i64 a ∧ t 1 = .int .i64 (k0 + a * 14 + b) ∧ t 0 = .slice (some ⟨i, 0, some 14⟩) n n ∧ H'.next = H.next ∧ (∀ i, ¬(lo ≤ i ∧ i < hi) → H'.row i = H.row i) ∧
        H'.row i = some ⟨ty, true, ints (markL k0 l (a * 14 + b))⟩) 14 ?_ ?_
      · refine ⟨0, by omega, by omega, ?_⟩
        try simp (disch := first | omega | (simp only [ints_length, List.length_replicate]; done) | (simp only [ints_length, List.length_replicate]; omega)) only [Sall,evalOp,init,binE,binI,unE,convE,okNil,builtE,gv,TD.isAgg,resV,↓reduceIte,Nat.reduceEqDiff,reduceCtorEq,Nat.reduceAdd,Nat.reduceMul,Nat.reduceLeDiff,quietOp,blindOp,Int.reduceEq,Int.reduceLT,Int.reduceLE,Nat.reduceLT,ti2,ti3,ti4,ti79,ti80,ti28,ti25,ti31,ti22,ti33,ti24,ti67,ti111,ti145,ti136,ti137,ti117,ti100, h5, h1, h0, Int.natCast_zero, Nat.add_zero, hr]
        and_intros <;> first | omega | assumption
      · rintro m' t H' ⟨b, hm', hb14, h6, h5, h1, h0, hnx, hsm, hr⟩
        try simp (disch := first | omega | (simp only [ints_length, List.length_replicate]; done) | (simp only [ints_length, List.length_replicate]; omega)) only [Sall,evalOp,init,binE,binI,unE,convE,okNil,builtE,gv,TD.isAgg,resV,↓reduceIte,Nat.reduceEqDiff,reduceCtorEq,Nat.reduceAdd,Nat.reduceMul,Nat.reduceLeDiff,quietOp,blindOp,Int.reduceEq,Int.reduceLT,Int.reduceLE,Nat.reduceLT,ti2,ti3,ti4,ti79,ti80,ti28,ti25,ti31,ti22,ti33,ti24,ti67,ti111,ti145,ti136,ti137,ti117,ti100, h6, h5]
        refine condC_dec (fun h' => ?_) (fun h' => ?_)
        · have e : k0 + ↑a * 14 + ↑b = k0 + ↑(a * 14 + b) := by omega
          have e2 : (markL k0 l (a * 14 + b)).set (a * 14 + b) (k0 + ↑a * 14 + ↑b) = markL k0 l (a * 14 + (b + 1)) := by rw [e, markL_set _ _ _ (by omega)]; rfl
          have e3 : (markL k0 l (a * 14 + b)).length = n * 14 := by rw [markL_length _ _ _ (by omega), hl]
          try simp (disch := first | omega | (simp only [ints_length, List.length_replicate]; done) | (simp only [ints_length, List.length_replicate]; omega)) only [Sall,evalOp,init,binE,binI,unE,convE,okNil,builtE,gv,TD.isAgg,resV,↓reduceIte,Nat.reduceEqDiff,reduceCtorEq,Nat.reduceAdd,Nat.reduceMul,Nat.reduceLeDiff,quietOp,blindOp,Int.reduceEq,Int.reduceLT,Int.reduceLE,Nat.reduceLT,ti2,ti3,ti4,ti79,ti80,ti28,ti25,ti31,ti22,ti33,ti24,ti67,ti111,ti145,ti136,ti137,ti117,ti100, h6, h5, h1, h0, hr, w64, ints_set, e2, e3]
          refine ⟨⟨by omega, by omega⟩, ⟨by omega, by omega⟩, by omega, 14 - (b + 1), by omega, b + 1, ?_⟩
          try simp (disch := first | omega | (simp only [ints_length, List.length_replicate]; done) | (simp only [ints_length, List.length_replicate]; omega)) only [Sall,evalOp,init,binE,binI,unE,convE,okNil,builtE,gv,TD.isAgg,resV,↓reduceIte,Nat.reduceEqDiff,reduceCtorEq,Nat.reduceAdd,Nat.reduceMul,Nat.reduceLeDiff,quietOp,blindOp,Int.reduceEq,Int.reduceLT,Int.reduceLE,Nat.reduceLT,ti2,ti3,ti4,ti79,ti80,ti28,ti25,ti31,ti22,ti33,ti24,ti67,ti111,ti145,ti136,ti137,ti117,ti100, true_and]
          and_intros <;> first | omega | assumption | skip
          intro x hx
          rw [if_neg (by omega)]; exact hsm x hx
        · try simp (disch := first | omega | (simp only [ints_length, List.length_replicate]; done) | (simp only [ints_length, List.length_replicate]; omega)) only [Sall,evalOp,init,binE,binI,unE,convE,okNil,builtE,gv,TD.isAgg,resV,↓reduceIte,Nat.reduceEqDiff,reduceCtorEq,Nat.reduceAdd,Nat.reduceMul,Nat.reduceLeDiff,quietOp,blindOp,Int.reduceEq,Int.reduceLT,Int.reduceLE,Nat.reduceLT,ti2,ti3,ti4,ti79,ti80,ti28,ti25,ti31,ti22,ti33,ti24,ti67,ti111,ti145,ti136,ti137,ti117,ti100, h6, h5, h1, h0, w64]
          have hb : b = 14 := by omega
          subst hb
          refine ⟨n - (a + 1), by omega, a + 1, rfl, by omega, by omega, by omega, hnx, hsm, ?_⟩
          refine ⟨by rw [markL_length _ _ _ (by omega)]; exact hv.1, .inr ⟨i, hi1, hi2, rfl, ?_⟩⟩
          rw [hr, show (a + 1) * 14 = a * 14 + 14 by omega]
    · try simp (disch := first | omega | (simp only [ints_length, List.length_replicate]; done) | (simp only [ints_length, List.length_replicate]; omega)) only [Sall,evalOp,init,binE,binI,unE,convE,okNil,builtE,gv,TD.isAgg,resV,↓reduceIte,Nat.reduceEqDiff,reduceCtorEq,Nat.reduceAdd,Nat.reduceMul,Nat.reduceLeDiff,quietOp,blindOp,Int.reduceEq,Int.reduceLT,Int.reduceLE,Nat.reduceLT,ti2,ti3,ti4,ti79,ti80,ti28,ti25,ti31,ti22,ti33,ti24,ti67,ti111,ti145,ti136,ti137,ti117,ti100, h1]
      have ha : a = n := by omega
      subst ha
      refine ⟨rfl, by omega, fun i hi _ => hsm i hi, ?_⟩
      rw [← hv.1] at hfr ⊢
      rwa [markL_all] at hfr

theorem markSchedule_c (ty lo hi : Nat) (v : Value) (q : Int) (n : Nat) (l : List Int) (k0 : Int) (hk : 0 ≤ k0 ∧ k0 ≤ 4294967296) (hn : n ≤ 4294967296) (H : AH) (hv : Fr 14 ty lo hi H v n l) (hh : hi ≤ H.next) :
    ACalls Try.prog 24 [.agg #[.int .i64 q, v], .int .i64 k0] H (fun r H' => r = .int .i64 (k0 + n * 14) ∧ H.next ≤ H'.next ∧ (∀ i, ¬(lo ≤ i ∧ i < hi) → i < H.next → H'.row i = H.row i) ∧ Fr 14 ty lo hi H' v n (seqL k0 (n * 14))) := by
  refine acalls_of_awp [.tmp 4] Try.func24 (by kernel_rfl) rfl rfl (Nat.le_of_ble_eq_true rfl) (by kernel_rfl) ?_
  try simp (disch := first | omega | (simp only [ints_length, List.length_replicate]; done) | (simp only [ints_length, List.length_replicate]; omega)) only [Sall,evalOp,init,binE,binI,unE,convE,okNil,builtE,gv,TD.isAgg,resV,↓reduceIte,Nat.reduceEqDiff,reduceCtorEq,Nat.reduceAdd,Nat.reduceMul,Nat.reduceLeDiff,quietOp,blindOp,Int.reduceEq,Int.reduceLT,Int.reduceLE,Nat.reduceLT,ti2,ti3,ti4,ti79,ti80,ti28,ti25,ti31,ti22,ti33,ti24,ti67,ti111,ti145,ti136,ti137,ti117,ti100, true_and]
  have hv' : Fr 14 ty lo hi (H.push ⟨33, true, [.int .i64 q, v]⟩) v n l := hv.same fun i _ h2 => by rw [AH.push_row, if_neg (by omega)]
  refine (markRoundS_c ty lo hi v n l k0 hk hn _ hv').fin ?_
  rintro H' ⟨h1, h2, h3⟩
  try simp (disch := first | omega | (simp only [ints_length, List.length_replicate]; done) | (simp only [ints_length, List.length_replicate]; omega)) only [Sall,evalOp,init,binE,binI,unE,convE,okNil,builtE,gv,TD.isAgg,resV,↓reduceIte,Nat.reduceEqDiff,reduceCtorEq,Nat.reduceAdd,Nat.reduceMul,Nat.reduceLeDiff,quietOp,blindOp,Int.reduceEq,Int.reduceLT,Int.reduceLE,Nat.reduceLT,ti2,ti3,ti4,ti79,ti80,ti28,ti25,ti31,ti22,ti33,ti24,ti67,ti111,ti145,ti136,ti137,ti117,ti100, true_and]
  rw [AH.push_next] at h1
  refine ⟨by omega, fun i hi' hi2 => ?_, h3⟩
  rw [h2 i hi' (by rw [AH.push_next]; omega), AH.push_row, if_neg (by omega)]

/-! ### Marks that are held -/
theorem heldRoundS_c (v : Value) (n : Nat) (k0 : Int) (hk : 0 ≤ k0 ∧ k0 ≤ 4294967296) (hn : n ≤ 4294967296) (H : AH) (hv : Rd 14 H v n (seqL k0 (n * 14))) :
    ACalls Try.prog 106 [v, .int .i64 k0] H (is (.int .i64 (k0 + n * 14)) H) := by
  refine acalls_up rfl (acalls_of_awp [.tmp 4] Try.func106 (by kernel_rfl) rfl rfl (Nat.le_of_ble_eq_true rfl) (by kernel_rfl) ?_)
  try simp (disch := first | omega | (simp only [ints_length, List.length_replicate]; done) | (simp only [ints_length, List.length_replicate]; omega)) only [Sall,evalOp,init,binE,binI,unE,convE,okNil,builtE,gv,TD.isAgg,resV,↓reduceIte,Nat.reduceEqDiff,reduceCtorEq,Nat.reduceAdd,Nat.reduceMul,Nat.reduceLeDiff,quietOp,blindOp,Int.reduceEq,Int.reduceLT,Int.reduceLE,Nat.reduceLT,ti2,ti3,ti4,ti79,ti80,ti28,ti25,ti31,ti22,ti33,ti24,ti67,ti111,ti145,ti136,ti137,ti117,ti100, true_and]
  refine awp_loop (fun m t H' => ∃ a : Nat, m = n - a ∧ a ≤ n ∧ t 5 = .int .i64 a ∧ t 1 = .int .i64 (k0 + a * 14) ∧ t 0 = v ∧ H' = H) n ?_ ?_
  · refine ⟨0, by omega, by omega, ?_⟩
    try simp (disch := first | omega | (simp only [ints_length, List.length_replicate]; done) | (simp only [ints_length, List.length_replicate]; omega)) only [Sall,evalOp,init,binE,binI,unE,convE,okNil,builtE,gv,TD.isAgg,resV,↓reduceIte,Nat.reduceEqDiff,reduceCtorEq,Nat.reduceAdd,Nat.reduceMul,Nat.reduceLeDiff,quietOp,blindOp,Int.reduceEq,Int.reduceLT,Int.reduceLE,Nat.reduceLT,ti2,ti3,ti4,ti79,ti80,ti28,ti25,ti31,ti22,ti33,ti24,ti67,ti111,ti145,ti136,ti137,ti117,ti100, Int.natCast_zero]
    omega
  · rintro m t H' ⟨a, hm, h14, h5, h1, h0, rfl⟩
    try simp (disch := first | omega | (simp only [ints_length, List.length_replicate]; done) | (simp only [ints_length, List.length_replicate]; omega)) only [Sall,evalOp,init,binE,binI,unE,convE,okNil,builtE,gv,TD.isAgg,resV,↓reduceIte,Nat.reduceEqDiff,reduceCtorEq,Nat.reduceAdd,Nat.reduceMul,Nat.reduceLeDiff,quietOp,blindOp,Int.reduceEq,Int.reduceLT,Int.reduceLE,Nat.reduceLT,ti2,ti3,ti4,ti79,ti80,ti28,ti25,ti31,ti22,ti33,ti24,ti67,ti111,ti145,ti136,ti137,ti117,ti100, h5, h1, h0, builtE, hv.len]
    refine condC_dec (fun h => ?_) (fun h => ?_)
    · try simp (disch := first | omega | (simp only [ints_length, List.length_replicate]; done) | (simp only [ints_length, List.length_replicate]; omega)) only [Sall,evalOp,init,binE,binI,unE,convE,okNil,builtE,gv,TD.isAgg,resV,↓reduceIte,Nat.reduceEqDiff,reduceCtorEq,Nat.reduceAdd,Nat.reduceMul,Nat.reduceLeDiff,quietOp,blindOp,Int.reduceEq,Int.reduceLT,Int.reduceLE,Nat.reduceLT,ti2,ti3,ti4,ti79,ti80,ti28,ti25,ti31,ti22,ti33,ti24,ti67,ti111,ti145,ti136,ti137,ti117,ti100, h5, h1, h0]
      obtain ⟨i, o, u, c, r, rfl, hr, hc, hs, _⟩ := hv.get (by omega)
      refine awp_loop (fun m' t H'' => ∃ b : Nat, m' = 14 - b ∧ b ≤ 14 ∧ t 6 = .int .i64 b ∧ t 5 = .int .i64 a ∧ t 1 = .int .i64 (k0 + a * 14 + b) ∧ t 0 = .slice (some ⟨i, o, u⟩) n c ∧ H'' = H') 14 ?_ ?_
      · refine ⟨0, by omega, by omega, ?_⟩
        try simp (disch := first | omega | (simp only [ints_length, List.length_replicate]; done) | (simp only [ints_length, List.length_replicate]; omega)) only [Sall,evalOp,init,binE,binI,unE,convE,okNil,builtE,gv,TD.isAgg,resV,↓reduceIte,Nat.reduceEqDiff,reduceCtorEq,Nat.reduceAdd,Nat.reduceMul,Nat.reduceLeDiff,quietOp,blindOp,Int.reduceEq,Int.reduceLT,Int.reduceLE,Nat.reduceLT,ti2,ti3,ti4,ti79,ti80,ti28,ti25,ti31,ti22,ti33,ti24,ti67,ti111,ti145,ti136,ti137,ti117,ti100, h5, h1, h0, Int.natCast_zero]
        omega
      · rintro m' t H' ⟨b, hm', hb14, h6, h5, h1, h0, rfl⟩
        try simp (disch := first | omega | (simp only [ints_length, List.length_replicate]; done) | (simp only [ints_length, List.length_replicate]; omega)) only [Sall,evalOp,init,binE,binI,unE,convE,okNil,builtE,gv,TD.isAgg,resV,↓reduceIte,Nat.reduceEqDiff,reduceCtorEq,Nat.reduceAdd,Nat.reduceMul,Nat.reduceLeDiff,quietOp,blindOp,Int.reduceEq,Int.reduceLT,Int.reduceLE,Nat.reduceLT,ti2,ti3,ti4,ti79,ti80,ti28,ti25,ti31,ti22,ti33,ti24,ti67,ti111,ti145,ti136,ti137,ti117,ti100, h6, h5]
        refine condC_dec (fun h' => ?_) (fun h' => ?_)
        · have e1 := hs (a * 14 + b) (by omega)
          rw [seqL_getD _ _ _ (by omega), ← Nat.add_assoc] at e1
          have e2 : (k0 + ((a * 14 + b : Nat) : Int) != k0 + (a : Int) * 14 + (b : Int)) = false := by rw [bne_eq_false_iff_eq]; omega
          try simp (disch := first | omega | (simp only [ints_length, List.length_replicate]; done) | (simp only [ints_length, List.length_replicate]; omega)) only [Sall,evalOp,init,binE,binI,unE,convE,okNil,builtE,gv,TD.isAgg,resV,↓reduceIte,Nat.reduceEqDiff,reduceCtorEq,Nat.reduceAdd,Nat.reduceMul,Nat.reduceLeDiff,quietOp,blindOp,Int.reduceEq,Int.reduceLT,Int.reduceLE,Nat.reduceLT,ti2,ti3,ti4,ti79,ti80,ti28,ti25,ti31,ti22,ti33,ti24,ti67,ti111,ti145,ti136,ti137,ti117,ti100, h6, h5, h1, h0, hr, w64, e1, e2]
          refine ⟨⟨by omega, by omega⟩, ⟨by omega, by omega⟩, 14 - (b + 1), by omega, b + 1, ?_⟩
          try simp (disch := first | omega | (simp only [ints_length, List.length_replicate]; done) | (simp only [ints_length, List.length_replicate]; omega)) only [Sall,evalOp,init,binE,binI,unE,convE,okNil,builtE,gv,TD.isAgg,resV,↓reduceIte,Nat.reduceEqDiff,reduceCtorEq,Nat.reduceAdd,Nat.reduceMul,Nat.reduceLeDiff,quietOp,blindOp,Int.reduceEq,Int.reduceLT,Int.reduceLE,Nat.reduceLT,ti2,ti3,ti4,ti79,ti80,ti28,ti25,ti31,ti22,ti33,ti24,ti67,ti111,ti145,ti136,ti137,ti117,ti100, true_and]
          and_intros <;> first | omega | assumption
        · try simp (disch := first | omega | (simp only [ints_length, List.length_replicate]; done) | (simp only [ints_length, List.length_replicate]; omega)) only [Sall,evalOp,init,binE,binI,unE,convE,okNil,builtE,gv,TD.isAgg,resV,↓reduceIte,Nat.reduceEqDiff,reduceCtorEq,Nat.reduceAdd,Nat.reduceMul,Nat.reduceLeDiff,quietOp,blindOp,Int.reduceEq,Int.reduceLT,Int.reduceLE,Nat.reduceLT,ti2,ti3,ti4,ti79,ti80,ti28,ti25,ti31,ti22,ti33,ti24,ti67,ti111,ti145,ti136,ti137,ti117,ti100, h6, h5, h1, h0, w64]
          refine ⟨n - (a + 1), by omega, a + 1, by and_intros <;> first | omega | assumption | rfl⟩
    · try simp (disch := first | omega | (simp only [ints_length, List.length_replicate]; done) | (simp only [ints_length, List.length_replicate]; omega)) only [Sall,evalOp,init,binE,binI,unE,convE,okNil,builtE,gv,TD.isAgg,resV,↓reduceIte,Nat.reduceEqDiff,reduceCtorEq,Nat.reduceAdd,Nat.reduceMul,Nat.reduceLeDiff,quietOp,blindOp,Int.reduceEq,Int.reduceLT,Int.reduceLE,Nat.reduceLT,ti2,ti3,ti4,ti79,ti80,ti28,ti25,ti31,ti22,ti33,ti24,ti67,ti111,ti145,ti136,ti137,ti117,ti100, h1]
      refine ⟨by omega, Up.refl _ _⟩

theorem heldSchedule_c (v : Value) (q : Int) (n : Nat) (k0 : Int) (hk : 0 ≤ k0 ∧ k0 ≤ 4294967296) (hn : n ≤ 4294967296) (H : AH) (hv : Rd 14 H v n (seqL k0 (n * 14))) :
    ACalls Try.prog 48 [.agg #[.int .i64 q, v], .int .i64 k0] H (is (.int .i64 (k0 + n * 14)) H) := by
  refine ACalls.wf (by kernel_rfl) fun hs => acalls_up rfl (acalls_of_awp [.tmp 4] Try.func48 (by kernel_rfl) rfl rfl (Nat.le_of_ble_eq_true rfl) (by kernel_rfl) ?_)
  have up : Up H.next H (H.push ⟨33, true, [.int .i64 q, v]⟩) := (Up.refl _ H).push (Nat.le_refl _) _
  try simp (disch := first | omega | (simp only [ints_length, List.length_replicate]; done) | (simp only [ints_length, List.length_replicate]; omega)) only [Sall,evalOp,init,binE,binI,unE,convE,okNil,builtE,gv,TD.isAgg,resV,↓reduceIte,Nat.reduceEqDiff,reduceCtorEq,Nat.reduceAdd,Nat.reduceMul,Nat.reduceLeDiff,quietOp,blindOp,Int.reduceEq,Int.reduceLT,Int.reduceLE,Nat.reduceLT,ti2,ti3,ti4,ti79,ti80,ti28,ti25,ti31,ti22,ti33,ti24,ti67,ti111,ti145,ti136,ti137,ti117,ti100, true_and]
  refine (heldRoundS_c v n k0 hk hn _ (hv.same (up.le hs).row)).to ?_
  try simp (disch := first | omega | (simp only [ints_length, List.length_replicate]; done) | (simp only [ints_length, List.length_replicate]; omega)) only [Sall,evalOp,init,binE,binI,unE,convE,okNil,builtE,gv,TD.isAgg,resV,↓reduceIte,Nat.reduceEqDiff,reduceCtorEq,Nat.reduceAdd,Nat.reduceMul,Nat.reduceLeDiff,quietOp,blindOp,Int.reduceEq,Int.reduceLT,Int.reduceLE,Nat.reduceLT,ti2,ti3,ti4,ti79,ti80,ti28,ti25,ti31,ti22,ti33,ti24,ti67,ti111,ti145,ti136,ti137,ti117,ti100, true_and]
  rw [decide_eq_false (by omega)]
  try simp (disch := first | omega | (simp only [ints_length, List.length_replicate]; done) | (simp only [ints_length, List.length_replicate]; omega)) only [Sall,evalOp,init,binE,binI,unE,convE,okNil,builtE,gv,TD.isAgg,resV,↓reduceIte,Nat.reduceEqDiff,reduceCtorEq,Nat.reduceAdd,Nat.reduceMul,Nat.reduceLeDiff,quietOp,blindOp,Int.reduceEq,Int.reduceLT,Int.reduceLE,Nat.reduceLT,ti2,ti3,ti4,ti79,ti80,ti28,ti25,ti31,ti22,ti33,ti24,ti67,ti111,ti145,ti136,ti137,ti117,ti100, true_and]
  exact up

end Go.Proofs.Ytbmpkihggipciaa.A
end

section
set_option linter.unusedSimpArgs false
set_option linter.unusedVariables false
set_option maxRecDepth 100000
namespace Go.Proofs.Ytbmpkihggipciaa.A
open Go Go.Abs Go.RowKit

theorem law_FirstBase_c (a0 : Int) (H : AH) (b0 : -9223372036854775808 ≤ a0 ∧ a0 ≤ 9223372036854775807) :
    ACalls Try.prog 5 [.int .i64 a0] H (fun v _ => v = .bool true ∧ True) := by
  refine ACalls.wf (by kernel_rfl) fun hs => acalls_of_awp [.tmp 2] Try.func5 (by kernel_rfl) rfl rfl (Nat.le_of_ble_eq_true rfl) (by kernel_rfl) ?_
  try simp (disch := first | omega | (simp only [ints_length, List.length_replicate]; done) | (simp only [ints_length, List.length_replicate]; omega)) only [Sall,evalOp,init,binE,binI,unE,convE,okNil,builtE,gv,TD.isAgg,resV,↓reduceIte,Nat.reduceEqDiff,reduceCtorEq,Nat.reduceAdd,Nat.reduceMul,Nat.reduceLeDiff,quietOp,blindOp,Int.reduceEq,Int.reduceLT,Int.reduceLE,Nat.reduceLT,ti2,ti3,ti4,ti79,ti80,ti28,ti25,ti31,ti22,ti33,ti24,ti67,ti111,ti145,ti136,ti137,ti117,ti100, true_and]
  obtain ⟨H1, eH1⟩ : ∃ H1, H1 = H := ⟨_, rfl⟩
  have nx1 : H1.next = H.next + 0 := by rw [eH1]; rfl
  have U1 : Up H.next H H1 := by rw [eH1]; exact Up.refl _ H
  rw [← eH1]
  clear eH1
  have hL0 : (fbR a0).length ≤ 4294967296 := by have := fbR_length a0; omega
  refine (specFirstBase_c a0 H1 b0).ex ?_
  rintro w0 H2 ⟨up2, Fw0⟩
  have nx2 := up2.next
  have U2 : Up H.next H H2 := U1.trans up2 (by omega)
  have Ow0 := Fw0.rd.one
  try simp (disch := first | omega | (simp only [ints_length, List.length_replicate]; done) | (simp only [ints_length, List.length_replicate]; omega)) only [Sall,evalOp,init,binE,binI,unE,convE,okNil,builtE,gv,TD.isAgg,resV,↓reduceIte,Nat.reduceEqDiff,reduceCtorEq,Nat.reduceAdd,Nat.reduceMul,Nat.reduceLeDiff,quietOp,blindOp,Int.reduceEq,Int.reduceLT,Int.reduceLE,Nat.reduceLT,ti2,ti3,ti4,ti79,ti80,ti28,ti25,ti31,ti22,ti33,ti24,ti67,ti111,ti145,ti136,ti137,ti117,ti100, Ow0]
  refine (FirstBase_c a0 H2 b0).ex ?_
  rintro r0 H3 ⟨up3, Fr0⟩
  have nx3 := up3.next
  have U3 : Up H.next H H3 := U2.trans up3 (by omega)
  replace Fw0 : Fr 1 2 H1.next H2.next H3 w0 _ _ := Fw0.same fun i _ hi => up3.row i (by omega)
  have Or0 := Fr0.rd.one
  try simp (disch := first | omega | (simp only [ints_length, List.length_replicate]; done) | (simp only [ints_length, List.length_replicate]; omega)) only [Sall,evalOp,init,binE,binI,unE,convE,okNil,builtE,gv,TD.isAgg,resV,↓reduceIte,Nat.reduceEqDiff,reduceCtorEq,Nat.reduceAdd,Nat.reduceMul,Nat.reduceLeDiff,quietOp,blindOp,Int.reduceEq,Int.reduceLT,Int.reduceLE,Nat.reduceLT,ti2,ti3,ti4,ti79,ti80,ti28,ti25,ti31,ti22,ti33,ti24,ti67,ti111,ti145,ti136,ti137,ti117,ti100, Ow0, Or0]
  refine (eqInt64S_c r0 w0 _ _ _ hL0 H3 Fr0.rd Fw0.rd).to ?_
  try simp (disch := first | omega | (simp only [ints_length, List.length_replicate]; done) | (simp only [ints_length, List.length_replicate]; omega)) only [Sall,evalOp,init,binE,binI,unE,convE,okNil,builtE,gv,TD.isAgg,resV,↓reduceIte,Nat.reduceEqDiff,reduceCtorEq,Nat.reduceAdd,Nat.reduceMul,Nat.reduceLeDiff,quietOp,blindOp,Int.reduceEq,Int.reduceLT,Int.reduceLE,Nat.reduceLT,ti2,ti3,ti4,ti79,ti80,ti28,ti25,ti31,ti22,ti33,ti24,ti67,ti111,ti145,ti136,ti137,ti117,ti100, Bool.not_true, bne_self_eq_false, Ow0, Or0]
  try simp (disch := first | omega | (simp only [ints_length, List.length_replicate]; done) | (simp only [ints_length, List.length_replicate]; omega)) only [Sall,evalOp,init,binE,binI,unE,convE,okNil,builtE,gv,TD.isAgg,resV,↓reduceIte,Nat.reduceEqDiff,reduceCtorEq,Nat.reduceAdd,Nat.reduceMul,Nat.reduceLeDiff,quietOp,blindOp,Int.reduceEq,Int.reduceLT,Int.reduceLE,Nat.reduceLT,ti2,ti3,ti4,ti79,ti80,ti28,ti25,ti31,ti22,ti33,ti24,ti67,ti111,ti145,ti136,ti137,ti117,ti100, Ow0, Or0]
  refine (markInt64S_c _ H2.next H3.next r0 _ _ _ (by omega) (by omega) H3 Fr0).fin ?_
  rintro H4 ⟨nx4, sm4, KFr0⟩
  have U4 : Up H.next H H4 := ⟨by have := U3.next; omega, fun i hi => by rw [sm4 i (by omega), U3.row i hi]⟩
  replace Fw0 : Fr 1 2 H1.next H2.next H4 w0 _ _ := Fw0.same fun i _ hi => sm4 i (by omega)
  try simp (disch := first | omega | (simp only [ints_length, List.length_replicate]; done) | (simp only [ints_length, List.length_replicate]; omega)) only [Sall,evalOp,init,binE,binI,unE,convE,okNil,builtE,gv,TD.isAgg,resV,↓reduceIte,Nat.reduceEqDiff,reduceCtorEq,Nat.reduceAdd,Nat.reduceMul,Nat.reduceLeDiff,quietOp,blindOp,Int.reduceEq,Int.reduceLT,Int.reduceLE,Nat.reduceLT,ti2,ti3,ti4,ti79,ti80,ti28,ti25,ti31,ti22,ti33,ti24,ti67,ti111,ti145,ti136,ti137,ti117,ti100, Ow0, Or0]
  refine (heldInt64S_c r0 _ _ (by omega) (by omega) H4 KFr0.rd).to ?_
  try simp (disch := first | omega | (simp only [ints_length, List.length_replicate]; done) | (simp only [ints_length, List.length_replicate]; omega)) only [Sall,evalOp,init,binE,binI,unE,convE,okNil,builtE,gv,TD.isAgg,resV,↓reduceIte,Nat.reduceEqDiff,reduceCtorEq,Nat.reduceAdd,Nat.reduceMul,Nat.reduceLeDiff,quietOp,blindOp,Int.reduceEq,Int.reduceLT,Int.reduceLE,Nat.reduceLT,ti2,ti3,ti4,ti79,ti80,ti28,ti25,ti31,ti22,ti33,ti24,ti67,ti111,ti145,ti136,ti137,ti117,ti100, bne_self_eq_false, beq_self_eq_true, Bool.not_true, Ow0, Or0]
  rw [decide_eq_false (by omega)]
  try simp (disch := first | omega | (simp only [ints_length, List.length_replicate]; done) | (simp only [ints_length, List.length_replicate]; omega)) only [Sall,evalOp,init,binE,binI,unE,convE,okNil,builtE,gv,TD.isAgg,resV,↓reduceIte,Nat.reduceEqDiff,reduceCtorEq,Nat.reduceAdd,Nat.reduceMul,Nat.reduceLeDiff,quietOp,blindOp,Int.reduceEq,Int.reduceLT,Int.reduceLE,Nat.reduceLT,ti2,ti3,ti4,ti79,ti80,ti28,ti25,ti31,ti22,ti33,ti24,ti67,ti111,ti145,ti136,ti137,ti117,ti100, bne_self_eq_false, beq_self_eq_true, Bool.not_true, Ow0, Or0]
  refine (FirstBase_c a0 H4 b0).ex ?_
  rintro s0 H5 ⟨up5, Fs0⟩
  have nx5 := up5.next
  have U5 : Up H.next H H5 := U4.trans up5 (by omega)
  replace Fw0 : Fr 1 2 H1.next H2.next H5 w0 _ _ := Fw0.same fun i _ hi => up5.row i (by omega)
  replace KFr0 : Fr 1 2 H2.next H3.next H5 r0 _ _ := KFr0.same fun i _ hi => up5.row i (by omega)
  have Os0 := Fs0.rd.one
  try simp (disch := first | omega | (simp only [ints_length, List.length_replicate]; done) | (simp only [ints_length, List.length_replicate]; omega)) only [Sall,evalOp,init,binE,binI,unE,convE,okNil,builtE,gv,TD.isAgg,resV,↓reduceIte,Nat.reduceEqDiff,reduceCtorEq,Nat.reduceAdd,Nat.reduceMul,Nat.reduceLeDiff,quietOp,blindOp,Int.reduceEq,Int.reduceLT,Int.reduceLE,Nat.reduceLT,ti2,ti3,ti4,ti79,ti80,ti28,ti25,ti31,ti22,ti33,ti24,ti67,ti111,ti145,ti136,ti137,ti117,ti100, Ow0, Or0, Os0]
  refine (eqInt64S_c s0 w0 _ _ _ hL0 H5 Fs0.rd Fw0.rd).to ?_
  try simp (disch := first | omega | (simp only [ints_length, List.length_replicate]; done) | (simp only [ints_length, List.length_replicate]; omega)) only [Sall,evalOp,init,binE,binI,unE,convE,okNil,builtE,gv,TD.isAgg,resV,↓reduceIte,Nat.reduceEqDiff,reduceCtorEq,Nat.reduceAdd,Nat.reduceMul,Nat.reduceLeDiff,quietOp,blindOp,Int.reduceEq,Int.reduceLT,Int.reduceLE,Nat.reduceLT,ti2,ti3,ti4,ti79,ti80,ti28,ti25,ti31,ti22,ti33,ti24,ti67,ti111,ti145,ti136,ti137,ti117,ti100, Bool.not_true, bne_self_eq_false, Ow0, Or0, Os0]
  refine (heldInt64S_c r0 _ _ (by omega) (by omega) H5 KFr0.rd).to ?_
  try simp (disch := first | omega | (simp only [ints_length, List.length_replicate]; done) | (simp only [ints_length, List.length_replicate]; omega)) only [Sall,evalOp,init,binE,binI,unE,convE,okNil,builtE,gv,TD.isAgg,resV,↓reduceIte,Nat.reduceEqDiff,reduceCtorEq,Nat.reduceAdd,Nat.reduceMul,Nat.reduceLeDiff,quietOp,blindOp,Int.reduceEq,Int.reduceLT,Int.reduceLE,Nat.reduceLT,ti2,ti3,ti4,ti79,ti80,ti28,ti25,ti31,ti22,ti33,ti24,ti67,ti111,ti145,ti136,ti137,ti117,ti100, bne_self_eq_false, beq_self_eq_true, Bool.not_true, Ow0, Or0, Os0]
  rw [decide_eq_false (by omega)]
  try simp (disch := first | omega | (simp only [ints_length, List.length_replicate]; done) | (simp only [ints_length, List.length_replicate]; omega)) only [Sall,evalOp,init,binE,binI,unE,convE,okNil,builtE,gv,TD.isAgg,resV,↓reduceIte,Nat.reduceEqDiff,reduceCtorEq,Nat.reduceAdd,Nat.reduceMul,Nat.reduceLeDiff,quietOp,blindOp,Int.reduceEq,Int.reduceLT,Int.reduceLE,Nat.reduceLT,ti2,ti3,ti4,ti79,ti80,ti28,ti25,ti31,ti22,ti33,ti24,ti67,ti111,ti145,ti136,ti137,ti117,ti100, bne_self_eq_false, beq_self_eq_true, Bool.not_true, Ow0, Or0, Os0]
end Go.Proofs.Ytbmpkihggipciaa.A
end

section
set_option linter.unusedVariables false
set_option maxRecDepth 100000
namespace Go.Proofs.Ytbmpkihggipciaa.A
open Go Go.Abs Go.RowKit
section
variable {K : Type} {enc : TypeId × Value → K} {W : World} {base b0 : Nat} {spare : Nat → Bool} {held : Bool}

theorem uInt : Try.prog.underlying 2 = some (.int .i64) := by kernel_rfl
theorem uArr : Try.prog.underlying 79 = some (.array 14 2) := by kernel_rfl
theorem uRounds : Try.prog.underlying 22 = some (.slice 79) := by kernel_rfl
theorem cInt : Try.prog.cellsOf 2 = 1 := by kernel_rfl
theorem cArr : Try.prog.cellsOf 79 = 14 := by kernel_rfl
theorem cRounds : Try.prog.cellsOf 22 = 1 := by kernel_rfl
theorem cSched : Try.prog.cellsOf 24 = 2 := by kernel_rfl
theorem fSched : fieldsOf Try.prog 24 = some [(2, 0), (22, 1)] := by kernel_rfl

theorem open_rounds {fuel : Nat} {v : Value} {x : DataW K × List MemPlace} (h : DataW.trod enc Try.prog W base spare held fuel 22 [v] = some x) (hok : Cell.okWide Try.prog W .any 0 22 v) :
    ∃ n l, Rd 14 (given W) v n l ∧ V1 id W.heap.size W v v ∧ n ≤ 9223372036854775807 := by
  have h1 := ok_slice_cell uRounds hok
  obtain ⟨n, l, hr, hv, hh⟩ := trod_ints uRounds cArr (by omega) (intsOf_array uArr uInt cInt cArr) h (h1.imp id fun ⟨b, o, n, c, e, hb, _⟩ => ⟨b, o, n, c, e, hb⟩)
  refine ⟨n, l, hr, hv, ?_⟩
  rcases hh with ⟨_, rfl⟩ | ⟨b, o, c, rfl⟩
  · omega
  · rcases h1 with h1 | ⟨b', o', n', c', e, _, hn⟩
    · cases h1
    · cases e; exact hn

theorem open_sched {fuel : Nat} {c0 c1 : Value} {x : DataW K × List MemPlace} (h : DataW.trod enc Try.prog W base spare held fuel 24 [c0, c1] = some x) (hok : Cell.okWide Try.prog W .any 0 22 c1) :
    ∃ q n l, c0 = .int .i64 q ∧ Rd 14 (given W) c1 n l ∧ V1 id W.heap.size W c1 c1 ∧ n ≤ 9223372036854775807 := by
  obtain ⟨m, hf⟩ := trod_fields fSched h
  obtain ⟨y0, h0⟩ := hf (2, 0) (by simp)
  obtain ⟨y1, h1⟩ := hf (22, 1) (by simp)
  simp only [cInt, cRounds] at h0 h1
  obtain ⟨q, hq, _⟩ := DataW.trod_int uInt h0
  obtain ⟨n, l, hr, hv, hn⟩ := open_rounds h1 hok
  exact ⟨q, n, l, by simpa using hq, hr, hv, hn⟩
end
end Go.Proofs.Ytbmpkihggipciaa.A
end

section
set_option linter.unusedVariables false
set_option maxRecDepth 100000
namespace Go.Proofs.Ytbmpkihggipciaa.A
open Go Go.Abs Go.RowKit
theorem tSched : Try.prog.cellTypes Try.prog.depth 24 = some [2, 22] := by kernel_rfl
theorem uList : Try.prog.underlying 28 = some (.slice 2) := by kernel_rfl
theorem uLists : Try.prog.underlying 25 = some (.slice 28) := by kernel_rfl
theorem cList : Try.prog.cellsOf 28 = 1 := by kernel_rfl
section
variable {K : Type} {enc : TypeId × Value → K} {W : World} {b0 : Nat} {spare : Nat → Bool} {held : Bool} {v : Value} {d : DataW K} {p : List MemPlace}

theorem open_S (h : DataW.Trod enc Try.prog W 0 spare held 24 v d p) (hok : Value.okWide Try.prog W .any b0 24 v) :
    ∃ q u n l, v = .agg #[.int .i64 q, u] ∧ Rd 14 (given W) u n l ∧ V1 id W.heap.size W u u ∧ n ≤ 9223372036854775807 := by
  obtain ⟨cs, rfl, hs, hc⟩ := ok_struct fSched tSched hok
  rw [cSched] at hs
  obtain ⟨l⟩ := cs
  match l, hs with
  | [c0, c1], _ =>
    obtain ⟨fuel, h⟩ := h
    obtain ⟨e, he, k1⟩ := hc 1 c1 rfl
    cases he
    obtain ⟨q, n, l, rfl, r1, v1, n1⟩ := open_sched h k1
    exact ⟨q, c1, n, l, rfl, r1, v1, n1⟩

theorem open_I (h : DataW.Trod enc Try.prog W 0 spare held 2 v d p) (hok : Value.okWide Try.prog W .any b0 2 v) : ∃ a, v = .int .i64 a ∧ -9223372036854775808 ≤ a ∧ a ≤ 9223372036854775807 := by
  obtain ⟨fuel, h⟩ := h
  obtain ⟨a, ha, hx⟩ := DataW.trod_int uInt h
  unfold Value.okWide at hok
  rw [uInt] at hok
  have h2 : Cell.okWide Try.prog W .any b0 2 v := hok
  unfold Cell.okWide at h2
  rw [uInt] at h2
  have h3 : Cell.ok Try.prog W .any b0 2 v := h2
  unfold Cell.ok at h3
  rw [uInt] at h3
  cases v with
  | int k n =>
    obtain ⟨rfl, h4, h5⟩ := h3
    exact ⟨n, rfl, h4, h5⟩
  | _ => exact False.elim h3

theorem cell_of_val {t e : TypeId} (hu : Try.prog.underlying t = some (.slice e)) (hok : Value.okWide Try.prog W .any b0 t v) : Cell.okWide Try.prog W .any 0 t v := by
  unfold Value.okWide at hok
  rw [hu] at hok
  exact hok

theorem cells_slice1 {t e : TypeId} (hu : Try.prog.underlying t = some (.slice e)) (hok : Cell.okWide Try.prog W .any 0 t v) : v.cells.toList = [v] := by
  rcases ok_slice_cell hu hok with rfl | ⟨b, o, n, c, rfl, _⟩ <;> rfl

theorem open_LL (h : DataW.Trod enc Try.prog W 0 spare held 25 v d p) (hok : Value.okWide Try.prog W .any b0 25 v) :
    ∃ ll, Rd2 1 (given W) v ll ∧ V1 id W.heap.size W v v ∧ ll.length ≤ 9223372036854775807 ∧ ∀ y ∈ ll, y.length ≤ 9223372036854775807 := by
  have h0 := cell_of_val uLists hok
  obtain ⟨fuel, h⟩ := h
  rw [cells_slice1 uLists h0] at h
  obtain ⟨ll, h1, h2, h3, h4⟩ := trod_lists uLists uList uInt cList cInt h (ok_slice_cell uLists h0)
  exact ⟨ll, h1, h2, h3, fun y hy => by have := h4 y hy; unfold Go.maxLen at this; omega⟩

theorem open_L (h : DataW.Trod enc Try.prog W 0 spare held 28 v d p) (hok : Value.okWide Try.prog W .any b0 28 v) :
    ∃ n l, Rd 1 (given W) v n l ∧ V1 id W.heap.size W v v ∧ n ≤ 9223372036854775807 := by
  have h0 := cell_of_val uList hok
  obtain ⟨fuel, h⟩ := h
  rw [cells_slice1 uList h0] at h
  have h1 := ok_slice_cell uList h0
  obtain ⟨n, l, hr, hv, hh⟩ := trod_ints uList cInt (by omega) (intsOf_int uInt) h (h1.imp id fun ⟨b, o, n, c, e, hb, _⟩ => ⟨b, o, n, c, e, hb⟩)
  refine ⟨n, l, hr, hv, ?_⟩
  rcases hh with ⟨_, rfl⟩ | ⟨b, o, c, rfl⟩
  · omega
  · rcases h1 with h1 | ⟨b', o', n', c', e, _, hn⟩
    · cases h1
    · cases e; exact hn
end
end Go.Proofs.Ytbmpkihggipciaa.A
end
