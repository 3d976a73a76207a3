/- Contracts: lists that are copied and searched; all orders of numbers, each told to a function. And what follows. -/
import Derived.Test.YtgkmdfjjlghecaaM2
import Derived.RangeFuncBox
import Derived.RangeFuncLeaves
import Derived.Shelf.Abstract
import Derived.WalkKit
import Derived.OwnWalkIn
import Derived.TacticsInMore
import Derived.LoopNIn
import Derived.LoopIn
import Derived.Maps.AppendAt
import Derived.KernelRfl
import Derived.Test.YtgkmdfjjlghecaaProg
import Derived.Sort.OwnSortedInts
import Derived.Laws.AppendOwn
import Derived.Shelf.SortM.Plain
import Derived.Shelf.SortM.SortNone
section
set_option linter.unusedSimpArgs false
set_option linter.unusedVariables false
set_option maxRecDepth 100000
set_option maxHeartbeats 2000000
namespace Go.Proofs.Ytgkmdfjjlghecaa.A
open Go Go.Abs Go.RowKit

theorem indexI_c (v : Value) (y : List Int) (x : Int) (H : AH) (hv : Rd 1 H v y.length y) (hy : y.length ≤ 4294967296) :
    ACalls Try.prog 162 [v, .int .i64 x] H (is (.int .i64 (firstI (fun i => y.getD i 0 == x) y.length)) H) := by
  refine acalls_up rfl (acalls_of_awp [.tmp 4] Try.func162 (by kernel_rfl) rfl rfl (Nat.le_of_ble_eq_true rfl) (by kernel_rfl) ?_)
  try simp (disch := first | omega | (simp only [ints_length, List.length_replicate, List.length_set]; done) | (simp only [ints_length, List.length_replicate, List.length_set]; omega)) only [Sall,evalOp,init,binE,binI,unE,convE,okNil,builtE,gv,TD.isAgg,resV,↓reduceIte,Nat.reduceEqDiff,reduceCtorEq,Nat.reduceAdd,Nat.reduceMul,Nat.reduceLeDiff,quietOp,blindOp,Int.reduceEq,Int.reduceLT,Int.reduceLE,Nat.reduceLT,ti2,ti3,ti4,ti45,ti46,ti38,ti25,ti30,ti22,ti32,ti24,ti95,ti172,ti169,ti165,ti166,ti65,ti143,ti87, builtE, hv.len]
  refine awp_loop (fun m t H' => ∃ a : Nat, m = y.length - a ∧ a ≤ y.length ∧ t 8 = .int .i64 a ∧ t 7 = .int .i64 y.length ∧ t 0 = v ∧ t 1 = .int .i64 x ∧ H' = H ∧ (∀ i, i < a → (y.getD i 0 == x) = false)) y.length ?_ ?_
  · refine ⟨0, by omega, by omega, ?_⟩
    try simp (disch := first | omega | (simp only [ints_length, List.length_replicate, List.length_set]; done) | (simp only [ints_length, List.length_replicate, List.length_set]; omega)) only [Sall,evalOp,init,binE,binI,unE,convE,okNil,builtE,gv,TD.isAgg,resV,↓reduceIte,Nat.reduceEqDiff,reduceCtorEq,Nat.reduceAdd,Nat.reduceMul,Nat.reduceLeDiff,quietOp,blindOp,Int.reduceEq,Int.reduceLT,Int.reduceLE,Nat.reduceLT,ti2,ti3,ti4,ti45,ti46,ti38,ti25,ti30,ti22,ti32,ti24,ti95,ti172,ti169,ti165,ti166,ti65,ti143,ti87, Int.natCast_zero, Nat.not_lt_zero, false_implies]
  · rintro m t H' ⟨a, hm, han, h8, h7, h0, h1, rfl, hall⟩
    try simp (disch := first | omega | (simp only [ints_length, List.length_replicate, List.length_set]; done) | (simp only [ints_length, List.length_replicate, List.length_set]; omega)) only [Sall,evalOp,init,binE,binI,unE,convE,okNil,builtE,gv,TD.isAgg,resV,↓reduceIte,Nat.reduceEqDiff,reduceCtorEq,Nat.reduceAdd,Nat.reduceMul,Nat.reduceLeDiff,quietOp,blindOp,Int.reduceEq,Int.reduceLT,Int.reduceLE,Nat.reduceLT,ti2,ti3,ti4,ti45,ti46,ti38,ti25,ti30,ti22,ti32,ti24,ti95,ti172,ti169,ti165,ti166,ti65,ti143,ti87, h8, h7]
    refine condC_dec (fun h => ?_) (fun h => ?_)
    · obtain ⟨i, o, u, c, r, rfl, hr, hc, hs, _⟩ := hv.get (by omega)
      have g1 := hs a (by omega)
      by_cases hx : y.getD a 0 = x
      · have e1 : (x == y.getD a 0) = true := by rw [hx]; exact beq_self_eq_true _
        try simp (disch := first | omega | (simp only [ints_length, List.length_replicate, List.length_set]; done) | (simp only [ints_length, List.length_replicate, List.length_set]; omega)) only [Sall,evalOp,init,binE,binI,unE,convE,okNil,builtE,gv,TD.isAgg,resV,↓reduceIte,Nat.reduceEqDiff,reduceCtorEq,Nat.reduceAdd,Nat.reduceMul,Nat.reduceLeDiff,quietOp,blindOp,Int.reduceEq,Int.reduceLT,Int.reduceLE,Nat.reduceLT,ti2,ti3,ti4,ti45,ti46,ti38,ti25,ti30,ti22,ti32,ti24,ti95,ti172,ti169,ti165,ti166,ti65,ti143,ti87, h8, h0, h1, hr, g1, e1]
        (repeat refine And.intro (by omega) ?_)
        rw [firstI_at (by omega) (by rw [hx]; exact beq_self_eq_true _) hall]
        exact ⟨rfl, Up.refl _ _⟩
      · have e1 : (x == y.getD a 0) = false := beq_eq_false_iff_ne.2 (Ne.symm hx)
        try simp (disch := first | omega | (simp only [ints_length, List.length_replicate, List.length_set]; done) | (simp only [ints_length, List.length_replicate, List.length_set]; omega)) only [Sall,evalOp,init,binE,binI,unE,convE,okNil,builtE,gv,TD.isAgg,resV,↓reduceIte,Nat.reduceEqDiff,reduceCtorEq,Nat.reduceAdd,Nat.reduceMul,Nat.reduceLeDiff,quietOp,blindOp,Int.reduceEq,Int.reduceLT,Int.reduceLE,Nat.reduceLT,ti2,ti3,ti4,ti45,ti46,ti38,ti25,ti30,ti22,ti32,ti24,ti95,ti172,ti169,ti165,ti166,ti65,ti143,ti87, h8, h7, h0, h1, hr, g1, e1, w64]
        (repeat refine And.intro (by omega) ?_)
        refine ⟨y.length - (a + 1), by omega, a + 1, rfl, by omega, rfl, fun i hi => ?_⟩
        by_cases e : i = a
        · rw [e]; exact beq_eq_false_iff_ne.2 hx
        · exact hall i (by omega)
    · try simp (disch := first | omega | (simp only [ints_length, List.length_replicate, List.length_set]; done) | (simp only [ints_length, List.length_replicate, List.length_set]; omega)) only [Sall,evalOp,init,binE,binI,unE,convE,okNil,builtE,gv,TD.isAgg,resV,↓reduceIte,Nat.reduceEqDiff,reduceCtorEq,Nat.reduceAdd,Nat.reduceMul,Nat.reduceLeDiff,quietOp,blindOp,Int.reduceEq,Int.reduceLT,Int.reduceLE,Nat.reduceLT,ti2,ti3,ti4,ti45,ti46,ti38,ti25,ti30,ti22,ti32,ti24,ti95,ti172,ti169,ti165,ti166,ti65,ti143,ti87, true_and]
      rw [firstI_none (fun i hi => hall i (by omega))]
      exact ⟨rfl, Up.refl _ _⟩

theorem containsI_c (v : Value) (y : List Int) (x : Int) (H : AH) (hv : Rd 1 H v y.length y) (hy : y.length ≤ 4294967296) :
    ACalls Try.prog 122 [v, .int .i64 x] H (is (.bool (y.contains x)) H) := by
  refine acalls_of_awp [.tmp 4] Try.func122 (by kernel_rfl) rfl rfl (Nat.le_of_ble_eq_true rfl) (by kernel_rfl) ?_
  try simp (disch := first | omega | (simp only [ints_length, List.length_replicate, List.length_set]; done) | (simp only [ints_length, List.length_replicate, List.length_set]; omega)) only [Sall,evalOp,init,binE,binI,unE,convE,okNil,builtE,gv,TD.isAgg,resV,↓reduceIte,Nat.reduceEqDiff,reduceCtorEq,Nat.reduceAdd,Nat.reduceMul,Nat.reduceLeDiff,quietOp,blindOp,Int.reduceEq,Int.reduceLT,Int.reduceLE,Nat.reduceLT,ti2,ti3,ti4,ti45,ti46,ti38,ti25,ti30,ti22,ti32,ti24,ti95,ti172,ti169,ti165,ti166,ti65,ti143,ti87, true_and]
  refine (indexI_c v y x H hv hy).to ?_
  try simp (disch := first | omega | (simp only [ints_length, List.length_replicate, List.length_set]; done) | (simp only [ints_length, List.length_replicate, List.length_set]; omega)) only [Sall,evalOp,init,binE,binI,unE,convE,okNil,builtE,gv,TD.isAgg,resV,↓reduceIte,Nat.reduceEqDiff,reduceCtorEq,Nat.reduceAdd,Nat.reduceMul,Nat.reduceLeDiff,quietOp,blindOp,Int.reduceEq,Int.reduceLT,Int.reduceLE,Nat.reduceLT,ti2,ti3,ti4,ti45,ti46,ti38,ti25,ti30,ti22,ti32,ti24,ti95,ti172,ti169,ti165,ti166,ti65,ti143,ti87, is, firstI_any]
  exact any_contains y x

/-- What is read where nothing is nil is appended to a new list. -/
theorem rd_seg {k n i o c : Nat} {u : Option Nat} {H : AH} {l : List Int} (h : Rd k H (.slice (some ⟨i, o, u⟩) n c) n l) (hn : 0 < n) : ∃ r, H.row i = some r ∧ o + n * k ≤ r.cells.length ∧ seg r.cells o (n * k) = ints l := by
  rcases h.2 with ⟨h0, _⟩ | ⟨i', o', u', c', r, e, hr, h3, h4⟩
  · omega
  · cases e; exact ⟨r, hr, h3, h4⟩

/-- A list that may be copied: nil, or with a row behind it. -/
def Cp (H : AH) (v : Value) (y : List Int) : Prop := Rd 1 H v y.length y ∧ (y.length = 0 → v = .slice none 0 0 ∨ ∃ i c r, v = .slice (some ⟨i, 0, some 1⟩) 0 c ∧ H.row i = some r ∧ r.rw = true)

theorem Cp.of_fr {ty lo hi : Nat} {H : AH} {v : Value} {y : List Int} (h : Fr 1 ty lo hi H v y.length y) : Cp H v y := by
  refine ⟨h.rd, fun h0 => ?_⟩
  rcases h.2 with ⟨_, rfl⟩ | ⟨i, h1, h2, rfl, hr⟩
  · exact .inl rfl
  · rw [h0]; exact .inr ⟨i, 0, _, rfl, hr, rfl⟩

theorem cloneI_c (v : Value) (y : List Int) (H : AH) (hv : Cp H v y) (hy : y.length ≤ 4194304) :
    ACalls Try.prog 188 [v] H (fun u H' => Up H.next H H' ∧ Fr 1 2 H.next H'.next H' u y.length y) := by
  refine ACalls.wf (by kernel_rfl) fun hs => acalls_of_awp [.tmp 2] Try.func188 (by kernel_rfl) rfl rfl (Nat.le_of_ble_eq_true rfl) (by kernel_rfl) ?_
  obtain ⟨hrd, hz⟩ := hv
  by_cases h0 : y.length = 0
  · have hy0 : y = [] := List.eq_nil_of_length_eq_zero h0
    subst hy0
    rcases hz h0 with rfl | ⟨i, c, r, rfl, hr, hw⟩
    · try simp (disch := first | omega | (simp only [ints_length, List.length_replicate, List.length_set]; done) | (simp only [ints_length, List.length_replicate, List.length_set]; omega)) only [Sall,evalOp,init,binE,binI,unE,convE,okNil,builtE,gv,TD.isAgg,resV,↓reduceIte,Nat.reduceEqDiff,reduceCtorEq,Nat.reduceAdd,Nat.reduceMul,Nat.reduceLeDiff,quietOp,blindOp,Int.reduceEq,Int.reduceLT,Int.reduceLE,Nat.reduceLT,ti2,ti3,ti4,ti45,ti46,ti38,ti25,ti30,ti22,ti32,ti24,ti95,ti172,ti169,ti165,ti166,ti65,ti143,ti87, binE, Option.isNone_none]
      exact ⟨Up.refl _ _, ⟨rfl, .inl ⟨rfl, rfl⟩⟩⟩
    · have hi := hs _ _ hr
      have ne : ¬ i = H.next := by omega
      have hok : Go.Abs.Row.ok r [] = True := eq_true (.inl hw)
      try simp (disch := first | omega | (simp only [ints_length, List.length_replicate, List.length_set]; done) | (simp only [ints_length, List.length_replicate, List.length_set]; omega)) only [Sall,evalOp,init,binE,binI,unE,convE,okNil,builtE,gv,TD.isAgg,resV,↓reduceIte,Nat.reduceEqDiff,reduceCtorEq,Nat.reduceAdd,Nat.reduceMul,Nat.reduceLeDiff,quietOp,blindOp,Int.reduceEq,Int.reduceLT,Int.reduceLE,Nat.reduceLT,ti2,ti3,ti4,ti45,ti46,ti38,ti25,ti30,ti22,ti32,ti24,ti95,ti172,ti169,ti165,ti166,ti65,ti143,ti87, binE, zeros_zero, slCells, hr, ne, hok, appE]
      (repeat refine And.intro (by omega) ?_)
      refine ⟨(Up.refl _ H).push (Nat.le_refl _) _, ⟨rfl, .inr ⟨H.next, Nat.le_refl _, Nat.lt_succ_self _, rfl, by rw [AH.push_row, if_pos rfl]; rfl⟩⟩⟩
  · obtain ⟨i, o, u, c, r, rfl, hr, hc, _, _⟩ := hrd.get (by omega)
    obtain ⟨r', hr', hc', hseg⟩ := rd_seg hrd (by omega)
    rw [hr] at hr'
    cases hr'
    rw [Nat.mul_one] at hseg hc
    have hi := hs _ _ hr
    have ne : ¬ i = H.next := by omega
    try simp (disch := first | omega | (simp only [ints_length, List.length_replicate, List.length_set]; done) | (simp only [ints_length, List.length_replicate, List.length_set]; omega)) only [Sall,evalOp,init,binE,binI,unE,convE,okNil,builtE,gv,TD.isAgg,resV,↓reduceIte,Nat.reduceEqDiff,reduceCtorEq,Nat.reduceAdd,Nat.reduceMul,Nat.reduceLeDiff,quietOp,blindOp,Int.reduceEq,Int.reduceLT,Int.reduceLE,Nat.reduceLT,ti2,ti3,ti4,ti45,ti46,ti38,ti25,ti30,ti22,ti32,ti24,ti95,ti172,ti169,ti165,ti166,ti65,ti143,ti87, binE, zeros_zero, slCells, hr, ne, hseg]
    (repeat refine And.intro (by omega) ?_)
    have h3 : Fr 1 2 H.next (H.next + 1) (H.push ⟨2, true, []⟩) (.slice (some ⟨H.next, 0, some 1⟩) 0 0) 0 [] := ⟨rfl, .inr ⟨H.next, Nat.le_refl _, Nat.lt_succ_self _, rfl, by rw [AH.push_row, if_pos rfl]; rfl⟩⟩
    refine appE_fr h3 rfl (by omega) (by omega) (by omega) (by decide) (by omega) (by rw [AH.push_next]; omega) ?_
    intro v' H4 k1 k2 k3
    rw [AH.push_next] at k1 k2 k3
    rw [Nat.zero_add, List.nil_append] at k3
    have k5 := k3.rd.one
    try simp (disch := first | omega | (simp only [ints_length, List.length_replicate, List.length_set]; done) | (simp only [ints_length, List.length_replicate, List.length_set]; omega)) only [Sall,evalOp,init,binE,binI,unE,convE,okNil,builtE,gv,TD.isAgg,resV,↓reduceIte,Nat.reduceEqDiff,reduceCtorEq,Nat.reduceAdd,Nat.reduceMul,Nat.reduceLeDiff,quietOp,blindOp,Int.reduceEq,Int.reduceLT,Int.reduceLE,Nat.reduceLT,ti2,ti3,ti4,ti45,ti46,ti38,ti25,ti30,ti22,ti32,ti24,ti95,ti172,ti169,ti165,ti166,ti65,ti143,ti87, true_and]
    exact ⟨⟨by omega, fun i hi => by rw [k2 i (by omega) (by omega), AH.push_row, if_neg (by omega)]⟩, k3.wide (by omega) (by omega)⟩

theorem l01Own_c (v : Value) (y : List Int) (H : AH) (hv : Cp H v y) (hy : y.length ≤ 4194304) :
    ACalls Try.prog 196 [v] H (fun u H' => Up H.next H H' ∧ Fr 1 2 H.next H'.next H' u y.length y) := by
  refine ACalls.wf (by kernel_rfl) fun hs => acalls_of_awp [.tmp 2] Try.func196 (by kernel_rfl) rfl rfl (Nat.le_of_ble_eq_true rfl) (by kernel_rfl) ?_
  obtain ⟨hrd, hz⟩ := hv
  by_cases h0 : y.length = 0
  · have hy0 : y = [] := List.eq_nil_of_length_eq_zero h0
    subst hy0
    rcases hz h0 with rfl | ⟨i, c, r, rfl, hr, hw⟩
    · try simp (disch := first | omega | (simp only [ints_length, List.length_replicate, List.length_set]; done) | (simp only [ints_length, List.length_replicate, List.length_set]; omega)) only [Sall,evalOp,init,binE,binI,unE,convE,okNil,builtE,gv,TD.isAgg,resV,↓reduceIte,Nat.reduceEqDiff,reduceCtorEq,Nat.reduceAdd,Nat.reduceMul,Nat.reduceLeDiff,quietOp,blindOp,Int.reduceEq,Int.reduceLT,Int.reduceLE,Nat.reduceLT,ti2,ti3,ti4,ti45,ti46,ti38,ti25,ti30,ti22,ti32,ti24,ti95,ti172,ti169,ti165,ti166,ti65,ti143,ti87, zeros_zero, slCells, appE]
      refine ⟨(Up.refl _ H).push (Nat.le_refl _) _, ⟨rfl, .inr ⟨H.next, Nat.le_refl _, Nat.lt_succ_self _, rfl, by rw [AH.push_row, if_pos rfl]; rfl⟩⟩⟩
    · have hi := hs _ _ hr
      have ne : ¬ i = H.next := by omega
      have hok : Go.Abs.Row.ok r [] = True := eq_true (.inl hw)
      try simp (disch := first | omega | (simp only [ints_length, List.length_replicate, List.length_set]; done) | (simp only [ints_length, List.length_replicate, List.length_set]; omega)) only [Sall,evalOp,init,binE,binI,unE,convE,okNil,builtE,gv,TD.isAgg,resV,↓reduceIte,Nat.reduceEqDiff,reduceCtorEq,Nat.reduceAdd,Nat.reduceMul,Nat.reduceLeDiff,quietOp,blindOp,Int.reduceEq,Int.reduceLT,Int.reduceLE,Nat.reduceLT,ti2,ti3,ti4,ti45,ti46,ti38,ti25,ti30,ti22,ti32,ti24,ti95,ti172,ti169,ti165,ti166,ti65,ti143,ti87, zeros_zero, slCells, hr, ne, hok, appE]
      (repeat refine And.intro (by omega) ?_)
      refine ⟨(Up.refl _ H).push (Nat.le_refl _) _, ⟨rfl, .inr ⟨H.next, Nat.le_refl _, Nat.lt_succ_self _, rfl, by rw [AH.push_row, if_pos rfl]; rfl⟩⟩⟩
  · obtain ⟨i, o, u, c, r, rfl, hr, hc, _, _⟩ := hrd.get (by omega)
    obtain ⟨r', hr', hc', hseg⟩ := rd_seg hrd (by omega)
    rw [hr] at hr'
    cases hr'
    rw [Nat.mul_one] at hseg hc
    have hi := hs _ _ hr
    have ne : ¬ i = H.next := by omega
    try simp (disch := first | omega | (simp only [ints_length, List.length_replicate, List.length_set]; done) | (simp only [ints_length, List.length_replicate, List.length_set]; omega)) only [Sall,evalOp,init,binE,binI,unE,convE,okNil,builtE,gv,TD.isAgg,resV,↓reduceIte,Nat.reduceEqDiff,reduceCtorEq,Nat.reduceAdd,Nat.reduceMul,Nat.reduceLeDiff,quietOp,blindOp,Int.reduceEq,Int.reduceLT,Int.reduceLE,Nat.reduceLT,ti2,ti3,ti4,ti45,ti46,ti38,ti25,ti30,ti22,ti32,ti24,ti95,ti172,ti169,ti165,ti166,ti65,ti143,ti87, zeros_zero, slCells, hr, ne, hseg]
    (repeat refine And.intro (by omega) ?_)
    have h3 : Fr 1 2 H.next (H.next + 1) (H.push ⟨2, true, []⟩) (.slice (some ⟨H.next, 0, some 1⟩) 0 0) 0 [] := ⟨rfl, .inr ⟨H.next, Nat.le_refl _, Nat.lt_succ_self _, rfl, by rw [AH.push_row, if_pos rfl]; rfl⟩⟩
    refine appE_fr h3 rfl (by omega) (by omega) (by omega) (by decide) (by omega) (by rw [AH.push_next]; omega) ?_
    intro v' H4 k1 k2 k3
    rw [AH.push_next] at k1 k2 k3
    rw [Nat.zero_add, List.nil_append] at k3
    have k5 := k3.rd.one
    try simp (disch := first | omega | (simp only [ints_length, List.length_replicate, List.length_set]; done) | (simp only [ints_length, List.length_replicate, List.length_set]; omega)) only [Sall,evalOp,init,binE,binI,unE,convE,okNil,builtE,gv,TD.isAgg,resV,↓reduceIte,Nat.reduceEqDiff,reduceCtorEq,Nat.reduceAdd,Nat.reduceMul,Nat.reduceLeDiff,quietOp,blindOp,Int.reduceEq,Int.reduceLT,Int.reduceLE,Nat.reduceLT,ti2,ti3,ti4,ti45,ti46,ti38,ti25,ti30,ti22,ti32,ti24,ti95,ti172,ti169,ti165,ti166,ti65,ti143,ti87, true_and]
    exact ⟨⟨by omega, fun i hi => by rw [k2 i (by omega) (by omega), AH.push_row, if_neg (by omega)]⟩, k3.wide (by omega) (by omega)⟩

theorem seqL_succ (a : Int) (m : Nat) : seqL a (m + 1) = seqL a m ++ [a + m] := by simp [seqL, List.range_succ]

theorem numbersFrom_c (a b : Int) (m : Nat) (ha : 0 ≤ a ∧ a ≤ 1024) (hm : m ≤ 1024) (hb : b = a + m - 1) (H : AH) :
    ACalls Try.prog 143 [.int .i64 a, .int .i64 b] H (fun u H' => Up H.next H H' ∧ Fr 1 2 H.next H'.next H' u m (seqL a m)) := by
  refine acalls_of_awp [.tmp 4] Try.func143 (by kernel_rfl) rfl rfl (Nat.le_of_ble_eq_true rfl) (by kernel_rfl) ?_
  try simp (disch := first | omega | (simp only [ints_length, List.length_replicate, List.length_set]; done) | (simp only [ints_length, List.length_replicate, List.length_set]; omega)) only [Sall,evalOp,init,binE,binI,unE,convE,okNil,builtE,gv,TD.isAgg,resV,↓reduceIte,Nat.reduceEqDiff,reduceCtorEq,Nat.reduceAdd,Nat.reduceMul,Nat.reduceLeDiff,quietOp,blindOp,Int.reduceEq,Int.reduceLT,Int.reduceLE,Nat.reduceLT,ti2,ti3,ti4,ti45,ti46,ti38,ti25,ti30,ti22,ti32,ti24,ti95,ti172,ti169,ti165,ti166,ti65,ti143,ti87, zeros_zero]
  refine awp_loop (fun z t H' => ∃ (c : Nat) (u : Value) (lo hi : Nat), z = m - c ∧ c ≤ m ∧ t 6 = .int .i64 (a + c) ∧ t 5 = u ∧ t 1 = .int .i64 b ∧ Up H.next H H' ∧ H.next ≤ lo ∧ lo ≤ hi ∧ hi ≤ H'.next ∧ Fr 1 2 lo hi H' u c (seqL a c)) m ?_ ?_
  · refine ⟨0, .slice (some ⟨H.next, 0, some 1⟩) 0 0, H.next, H.next + 1, by omega, by omega, ?_⟩
    try simp (disch := first | omega | (simp only [ints_length, List.length_replicate, List.length_set]; done) | (simp only [ints_length, List.length_replicate, List.length_set]; omega)) only [Sall,evalOp,init,binE,binI,unE,convE,okNil,builtE,gv,TD.isAgg,resV,↓reduceIte,Nat.reduceEqDiff,reduceCtorEq,Nat.reduceAdd,Nat.reduceMul,Nat.reduceLeDiff,quietOp,blindOp,Int.reduceEq,Int.reduceLT,Int.reduceLE,Nat.reduceLT,ti2,ti3,ti4,ti45,ti46,ti38,ti25,ti30,ti22,ti32,ti24,ti95,ti172,ti169,ti165,ti166,ti65,ti143,ti87, Int.natCast_zero, Int.add_zero]
    refine ⟨(Up.refl _ H).push (Nat.le_refl _) _, ?_⟩
    (repeat refine And.intro (by omega) ?_)
    exact ⟨rfl, .inr ⟨H.next, Nat.le_refl _, Nat.lt_succ_self _, rfl, by rw [AH.push_row, if_pos rfl]; rfl⟩⟩
  · rintro z t H' ⟨c, u, lo, hi, hz, hcm, h6, h5, h1, hup, hlo, hlh, hhi, hfr⟩
    try simp (disch := first | omega | (simp only [ints_length, List.length_replicate, List.length_set]; done) | (simp only [ints_length, List.length_replicate, List.length_set]; omega)) only [Sall,evalOp,init,binE,binI,unE,convE,okNil,builtE,gv,TD.isAgg,resV,↓reduceIte,Nat.reduceEqDiff,reduceCtorEq,Nat.reduceAdd,Nat.reduceMul,Nat.reduceLeDiff,quietOp,blindOp,Int.reduceEq,Int.reduceLT,Int.reduceLE,Nat.reduceLT,ti2,ti3,ti4,ti45,ti46,ti38,ti25,ti30,ti22,ti32,ti24,ti95,ti172,ti169,ti165,ti166,ti65,ti143,ti87, h6, h1]
    refine condC_dec (fun h => ?_) (fun h => ?_)
    · have zz : zeros 1 [.int .i64 0] = [.int .i64 0] := rfl
      have hup1 := hup.next
      try simp (disch := first | omega | (simp only [ints_length, List.length_replicate, List.length_set]; done) | (simp only [ints_length, List.length_replicate, List.length_set]; omega)) only [Sall,evalOp,init,binE,binI,unE,convE,okNil,builtE,gv,TD.isAgg,resV,↓reduceIte,Nat.reduceEqDiff,reduceCtorEq,Nat.reduceAdd,Nat.reduceMul,Nat.reduceLeDiff,quietOp,blindOp,Int.reduceEq,Int.reduceLT,Int.reduceLE,Nat.reduceLT,ti2,ti3,ti4,ti45,ti46,ti38,ti25,ti30,ti22,ti32,ti24,ti95,ti172,ti169,ti165,ti166,ti65,ti143,ti87, h6, h5, zz, slCells]
      obtain ⟨H2, e2⟩ : ∃ H2, H2 = H'.push ⟨2, true, [.int .i64 (a + c)]⟩ := ⟨_, rfl⟩
      have n2 : H2.next = H'.next + 1 := by rw [e2]; rfl
      have s2 : ∀ i, i < H'.next → H2.row i = H'.row i := fun i hi => by rw [e2, AH.push_row, if_neg (by omega)]
      rw [← e2]
      clear e2
      refine appE_fr (k := 1) (lo := lo) (hi := hi) (l := seqL a c) (m := [a + (c : Int)]) (hfr.same fun i _ hi => s2 i (by omega)) rfl (by omega) rfl (by omega) (by decide) (by omega) (by omega) ?_
      intro v' H3 n3 s3 f3
      try simp (disch := first | omega | (simp only [ints_length, List.length_replicate, List.length_set]; done) | (simp only [ints_length, List.length_replicate, List.length_set]; omega)) only [Sall,evalOp,init,binE,binI,unE,convE,okNil,builtE,gv,TD.isAgg,resV,↓reduceIte,Nat.reduceEqDiff,reduceCtorEq,Nat.reduceAdd,Nat.reduceMul,Nat.reduceLeDiff,quietOp,blindOp,Int.reduceEq,Int.reduceLT,Int.reduceLE,Nat.reduceLT,ti2,ti3,ti4,ti45,ti46,ti38,ti25,ti30,ti22,ti32,ti24,ti95,ti172,ti169,ti165,ti166,ti65,ti143,ti87, h6, h1, w64]
      refine ⟨m - (c + 1), by omega, c + 1, v', H2.next, H2.next + 1, rfl, by omega, by omega, rfl, ⟨by omega, fun i hi => ?_⟩, by omega, by omega, by omega, ?_⟩
      · rw [s3 i (by omega) (by omega), s2 i (by omega), hup.row i hi]
      · rw [seqL_succ]; exact f3
    · try simp (disch := first | omega | (simp only [ints_length, List.length_replicate, List.length_set]; done) | (simp only [ints_length, List.length_replicate, List.length_set]; omega)) only [Sall,evalOp,init,binE,binI,unE,convE,okNil,builtE,gv,TD.isAgg,resV,↓reduceIte,Nat.reduceEqDiff,reduceCtorEq,Nat.reduceAdd,Nat.reduceMul,Nat.reduceLeDiff,quietOp,blindOp,Int.reduceEq,Int.reduceLT,Int.reduceLE,Nat.reduceLT,ti2,ti3,ti4,ti45,ti46,ti38,ti25,ti30,ti22,ti32,ti24,ti95,ti172,ti169,ti165,ti166,ti65,ti143,ti87, h5]
      have hc : c = m := by omega
      subst hc
      exact ⟨hup, hfr.wide hlo hhi⟩

/-! ### All orders -/
/-- A list that stays readable as long as the rows from b0 on stay. -/
def Per (b0 : Nat) (H : AH) (v : Value) (y : List Int) : Prop := ∀ H', (∀ i, b0 ≤ i → i < H.next → H'.row i = H.row i) → Cp H' v y
theorem Per.nil (b0 : Nat) (H : AH) : Per b0 H (.slice none 0 0) [] := fun H' _ => ⟨⟨rfl, .inl ⟨rfl, none, 0, rfl, fun _ => rfl⟩⟩, fun _ => .inl rfl⟩
theorem Per.fr {b0 ty lo hi : Nat} {H : AH} {v : Value} {y : List Int} (h : Fr 1 ty lo hi H v y.length y) (hb : b0 ≤ lo) (hn : hi ≤ H.next) : Per b0 H v y := by
  intro H' hr
  refine Cp.of_fr (ty := ty) (lo := lo) (hi := hi) ⟨h.1, ?_⟩
  rcases h.2 with h2 | ⟨i, h1, h2, hv, hri⟩
  · exact .inl h2
  · exact .inr ⟨i, h1, h2, hv, by rw [hr i (by omega) (by omega)]; exact hri⟩

/-- How a walk through all orders ends. -/
def OrdR (b0 : Nat) (cont : List Int → Bool) (S : List (List Int) → AH → Prop) (es L : List (List Int)) (H : AH) (r : Value) (H' : AH) : Prop :=
  H.next ≤ H'.next ∧ (∀ i, b0 ≤ i → i < H.next → H'.row i = H.row i) ∧
  ((r = .bool true ∧ (∀ z ∈ L, cont z = true) ∧ S (es ++ L) H') ∨ (r = .bool false ∧ ∃ L1 z L2, L = L1 ++ z :: L2 ∧ (∀ w ∈ L1, cont w = true) ∧ cont z = false ∧ S (es ++ L1 ++ [z]) H'))

theorem orders_c (g : FuncId) (cap : List Value) (cont : List Int → Bool) (ok : List Int → Prop) (S : List (List Int) → AH → Prop) (b0 : Nat) (nv : Value) (nums : List Int) (B : AH) (hnv : Rd 1 B nv nums.length nums) (hnl : nums.length ≤ 64)
    (hSr : ∀ es H', S es H' → ∀ i r, B.row i = some r → H'.row i = some r)
    (hSt : ∀ es H1 H2, S es H1 → H1.next ≤ H2.next → (∀ i, i < H1.next → H2.row i = H1.row i) → S es H2)
    (hok : ∀ y x, ok y → x ∈ nums → y.contains x = false → ok (y ++ [x]))
    (hstep : ∀ es y v H1, S es H1 → (∀ z ∈ es, cont z = true) → b0 ≤ H1.next → y.length = nums.length → ok y → Cp H1 v y →
      ACalls Try.prog g (v :: cap) H1 (fun r H2 => r = .bool (cont y) ∧ S (es ++ [y]) H2 ∧ H1.next ≤ H2.next ∧ ∀ i, b0 ≤ i → i < H1.next → H2.row i = H1.row i)) :
    ∀ (fuel : Nat) (y : List Int) (es : List (List Int)) (v : Value) (H : AH), fuel + y.length = nums.length → S es H → (∀ z ∈ es, cont z = true) → b0 ≤ H.next → Per b0 H v y → ok y →
      ACalls Try.prog 142 [v, nv, .func (.func g) #[] cap.toArray] H (OrdR b0 cont S es (ordN nums fuel y) H) := by
  intro fuel
  induction fuel with
  | zero =>
    intro y es v H hlen hS hall hb hp hy
    refine acalls_of_awp [.tmp 6] Try.func142 (by kernel_rfl) rfl rfl (Nat.le_of_ble_eq_true rfl) (by kernel_rfl) ?_
    have hcp := hp H (fun i _ _ => rfl)
    have hn := hnv.same (hSr _ _ hS)
    have e1 : ((y.length : Int) == (nums.length : Int)) = true := by rw [show y.length = nums.length by omega]; exact beq_self_eq_true _
    try simp (disch := first | omega | (simp only [ints_length, List.length_replicate, List.length_set]; done) | (simp only [ints_length, List.length_replicate, List.length_set]; omega)) only [Sall,evalOp,init,binE,binI,unE,convE,okNil,builtE,gv,TD.isAgg,resV,↓reduceIte,Nat.reduceEqDiff,reduceCtorEq,Nat.reduceAdd,Nat.reduceMul,Nat.reduceLeDiff,quietOp,blindOp,Int.reduceEq,Int.reduceLT,Int.reduceLE,Nat.reduceLT,ti2,ti3,ti4,ti45,ti46,ti38,ti25,ti30,ti22,ti32,ti24,ti95,ti172,ti169,ti165,ti166,ti65,ti143,ti87, builtE, hcp.1.len, hn.len, e1]
    refine (hstep es y v H hS hall hb (by omega) hy hcp).fin ?_
    rintro H2 ⟨hS2, hn2, hr2⟩
    try simp (disch := first | omega | (simp only [ints_length, List.length_replicate, List.length_set]; done) | (simp only [ints_length, List.length_replicate, List.length_set]; omega)) only [Sall,evalOp,init,binE,binI,unE,convE,okNil,builtE,gv,TD.isAgg,resV,↓reduceIte,Nat.reduceEqDiff,reduceCtorEq,Nat.reduceAdd,Nat.reduceMul,Nat.reduceLeDiff,quietOp,blindOp,Int.reduceEq,Int.reduceLT,Int.reduceLE,Nat.reduceLT,ti2,ti3,ti4,ti45,ti46,ti38,ti25,ti30,ti22,ti32,ti24,ti95,ti172,ti169,ti165,ti166,ti65,ti143,ti87, true_and]
    refine ⟨hn2, hr2, ?_⟩
    cases hc : cont y with
    | true => exact .inl ⟨rfl, fun z hz => by simp only [ordN, List.mem_singleton] at hz; rw [hz, hc], hS2⟩
    | false => exact .inr ⟨rfl, [], y, [], rfl, by simp, hc, by simpa using hS2⟩
  | succ f ih =>
    intro y es v H hlen hS hall hb hp hy
    refine ACalls.wf (by kernel_rfl) fun hs => acalls_of_awp [.tmp 6] Try.func142 (by kernel_rfl) rfl rfl (Nat.le_of_ble_eq_true rfl) (by kernel_rfl) ?_
    have hcp := hp H (fun i _ _ => rfl)
    have hn := hnv.same (hSr _ _ hS)
    have e1 : ((y.length : Int) == (nums.length : Int)) = false := by rw [beq_eq_false_iff_ne]; omega
    try simp (disch := first | omega | (simp only [ints_length, List.length_replicate, List.length_set]; done) | (simp only [ints_length, List.length_replicate, List.length_set]; omega)) only [Sall,evalOp,init,binE,binI,unE,convE,okNil,builtE,gv,TD.isAgg,resV,↓reduceIte,Nat.reduceEqDiff,reduceCtorEq,Nat.reduceAdd,Nat.reduceMul,Nat.reduceLeDiff,quietOp,blindOp,Int.reduceEq,Int.reduceLT,Int.reduceLE,Nat.reduceLT,ti2,ti3,ti4,ti45,ti46,ti38,ti25,ti30,ti22,ti32,ti24,ti95,ti172,ti169,ti165,ti166,ti65,ti143,ti87, builtE, hcp.1.len, hn.len, e1]
    refine awp_loop (fun m t H' => ∃ c : Nat, m = nums.length - c ∧ c ≤ nums.length ∧ t 19 = .int .i64 c ∧ t 18 = .int .i64 nums.length ∧ t 17 = nv ∧ t 0 = v ∧ t 1 = nv ∧ t 2 = .func (.func g) #[] cap.toArray ∧ H.next ≤ H'.next ∧ (∀ i, b0 ≤ i → i < H.next → H'.row i = H.row i) ∧ (∀ z ∈ ordP nums f y c, cont z = true) ∧ S (es ++ ordP nums f y c) H') nums.length ?_ ?_
    · refine ⟨0, by omega, by omega, ?_⟩
      try simp (disch := first | omega | (simp only [ints_length, List.length_replicate, List.length_set]; done) | (simp only [ints_length, List.length_replicate, List.length_set]; omega)) only [Sall,evalOp,init,binE,binI,unE,convE,okNil,builtE,gv,TD.isAgg,resV,↓reduceIte,Nat.reduceEqDiff,reduceCtorEq,Nat.reduceAdd,Nat.reduceMul,Nat.reduceLeDiff,quietOp,blindOp,Int.reduceEq,Int.reduceLT,Int.reduceLE,Nat.reduceLT,ti2,ti3,ti4,ti45,ti46,ti38,ti25,ti30,ti22,ti32,ti24,ti95,ti172,ti169,ti165,ti166,ti65,ti143,ti87, Int.natCast_zero, ordP_zero, List.append_nil]
      exact ⟨by simp, hS⟩
    · rintro m t H' ⟨c, hm, hcn, h19, h18, h17, h0, h1, h2, hnx, hrows, hpc, hS'⟩
      try simp (disch := first | omega | (simp only [ints_length, List.length_replicate, List.length_set]; done) | (simp only [ints_length, List.length_replicate, List.length_set]; omega)) only [Sall,evalOp,init,binE,binI,unE,convE,okNil,builtE,gv,TD.isAgg,resV,↓reduceIte,Nat.reduceEqDiff,reduceCtorEq,Nat.reduceAdd,Nat.reduceMul,Nat.reduceLeDiff,quietOp,blindOp,Int.reduceEq,Int.reduceLT,Int.reduceLE,Nat.reduceLT,ti2,ti3,ti4,ti45,ti46,ti38,ti25,ti30,ti22,ti32,ti24,ti95,ti172,ti169,ti165,ti166,ti65,ti143,ti87, h19, h18]
      refine condC_dec (fun h => ?_) (fun h => ?_)
      · have hn' := hnv.same (hSr _ _ hS')
        have hcp' := hp H' hrows
        obtain ⟨i, o, u, cc, r, rfl, hr, hc', hg, _⟩ := hn'.get (by omega)
        have g1 := hg c (by omega)
        have hpre := ordP_pre nums f y c (by omega)
        have hsucc := ordP_succ nums f y c (by omega)
        have hxm : nums.getD c 0 ∈ nums := by rw [List.getD_eq_getElem?_getD, List.getElem?_eq_getElem (by omega)]; exact List.getElem_mem _
        revert g1 hsucc hxm
        generalize nums.getD c 0 = x
        intro g1 hsucc hxm
        try simp (disch := first | omega | (simp only [ints_length, List.length_replicate, List.length_set]; done) | (simp only [ints_length, List.length_replicate, List.length_set]; omega)) only [Sall,evalOp,init,binE,binI,unE,convE,okNil,builtE,gv,TD.isAgg,resV,↓reduceIte,Nat.reduceEqDiff,reduceCtorEq,Nat.reduceAdd,Nat.reduceMul,Nat.reduceLeDiff,quietOp,blindOp,Int.reduceEq,Int.reduceLT,Int.reduceLE,Nat.reduceLT,ti2,ti3,ti4,ti45,ti46,ti38,ti25,ti30,ti22,ti32,ti24,ti95,ti172,ti169,ti165,ti166,ti65,ti143,ti87, h19, h17, h0, hr, g1]
        (repeat refine And.intro (by omega) ?_)
        refine (containsI_c v y x H' hcp'.1 (by omega)).to ?_
        cases hct : y.contains x with
        | true =>
          rw [hct, if_pos rfl, List.append_nil] at hsucc
          try simp (disch := first | omega | (simp only [ints_length, List.length_replicate, List.length_set]; done) | (simp only [ints_length, List.length_replicate, List.length_set]; omega)) only [Sall,evalOp,init,binE,binI,unE,convE,okNil,builtE,gv,TD.isAgg,resV,↓reduceIte,Nat.reduceEqDiff,reduceCtorEq,Nat.reduceAdd,Nat.reduceMul,Nat.reduceLeDiff,quietOp,blindOp,Int.reduceEq,Int.reduceLT,Int.reduceLE,Nat.reduceLT,ti2,ti3,ti4,ti45,ti46,ti38,ti25,ti30,ti22,ti32,ti24,ti95,ti172,ti169,ti165,ti166,ti65,ti143,ti87, Bool.not_true, h19, h18, h17, h0, h1, h2, w64]
          refine ⟨nums.length - (c + 1), by omega, c + 1, rfl, by omega, rfl, hnx, hrows, ?_⟩
          rw [hsucc]; exact ⟨hpc, hS'⟩
        | false =>
          rw [hct, if_neg (by simp)] at hsucc
          have zz : zeros 1 [.int .i64 0] = [.int .i64 0] := rfl
          try simp (disch := first | omega | (simp only [ints_length, List.length_replicate, List.length_set]; done) | (simp only [ints_length, List.length_replicate, List.length_set]; omega)) only [Sall,evalOp,init,binE,binI,unE,convE,okNil,builtE,gv,TD.isAgg,resV,↓reduceIte,Nat.reduceEqDiff,reduceCtorEq,Nat.reduceAdd,Nat.reduceMul,Nat.reduceLeDiff,quietOp,blindOp,Int.reduceEq,Int.reduceLT,Int.reduceLE,Nat.reduceLT,ti2,ti3,ti4,ti45,ti46,ti38,ti25,ti30,ti22,ti32,ti24,ti95,ti172,ti169,ti165,ti166,ti65,ti143,ti87, Bool.not_false, h19, h18, h17, h0, h1, h2]
          refine (cloneI_c v y H' hcp' (by omega)).mono ?_
          rintro w H2 ⟨up2, hf⟩
          have n2 := up2.next
          refine Holds.mp ?_
          try simp (disch := first | omega | (simp only [ints_length, List.length_replicate, List.length_set]; done) | (simp only [ints_length, List.length_replicate, List.length_set]; omega)) only [Sall,evalOp,init,binE,binI,unE,convE,okNil,builtE,gv,TD.isAgg,resV,↓reduceIte,Nat.reduceEqDiff,reduceCtorEq,Nat.reduceAdd,Nat.reduceMul,Nat.reduceLeDiff,quietOp,blindOp,Int.reduceEq,Int.reduceLT,Int.reduceLE,Nat.reduceLT,ti2,ti3,ti4,ti45,ti46,ti38,ti25,ti30,ti22,ti32,ti24,ti95,ti172,ti169,ti165,ti166,ti65,ti143,ti87, h19, h18, h17, h0, h1, h2, zz, slCells]
          obtain ⟨H3, e3⟩ : ∃ H3, H3 = H2.push ⟨2, true, [.int .i64 x]⟩ := ⟨_, rfl⟩
          have n3 : H3.next = H2.next + 1 := by rw [e3]; rfl
          have s3 : ∀ i, i < H2.next → H3.row i = H2.row i := fun i hi => by rw [e3, AH.push_row, if_neg (by omega)]
          rw [← e3]
          clear e3
          refine appE_fr (k := 1) (lo := H'.next) (hi := H2.next) (l := y) (m := [x]) (hf.same fun i _ hi => s3 i (by omega)) rfl (by omega) rfl (by omega) (by decide) (by omega) (by omega) ?_
          intro v' H4 n4 s4 f4
          have old : ∀ i, i < H'.next → H4.row i = H'.row i := fun i hi => by rw [s4 i (by omega) (by omega), s3 i (by omega), up2.row i hi]
          have hl1 : (y ++ [x]).length = y.length + 1 := by simp
          rw [← hl1] at f4
          try simp (disch := first | omega | (simp only [ints_length, List.length_replicate, List.length_set]; done) | (simp only [ints_length, List.length_replicate, List.length_set]; omega)) only [Sall,evalOp,init,binE,binI,unE,convE,okNil,builtE,gv,TD.isAgg,resV,↓reduceIte,Nat.reduceEqDiff,reduceCtorEq,Nat.reduceAdd,Nat.reduceMul,Nat.reduceLeDiff,quietOp,blindOp,Int.reduceEq,Int.reduceLT,Int.reduceLE,Nat.reduceLT,ti2,ti3,ti4,ti45,ti46,ti38,ti25,ti30,ti22,ti32,ti24,ti95,ti172,ti169,ti165,ti166,ti65,ti143,ti87, h19, h18, h17, h0, h1, h2]
          refine (ih (y ++ [x]) (es ++ ordP nums f y c) v' H4 (by omega) (hSt _ _ _ hS' (by omega) old) (fun z hz => (List.mem_append.1 hz).elim (hall z) (hpc z)) (by omega) (Per.fr f4 (by omega) (by omega)) (hok y x hy hxm hct)).mono ?_
          rintro rr H5 ⟨n5, r5, hcase⟩
          have rows5 : ∀ i, b0 ≤ i → i < H.next → H5.row i = H.row i := fun i hb1 hr1 => by rw [r5 i hb1 (by omega), old i (by omega), hrows i hb1 hr1]
          refine Holds.mp ?_
          rcases hcase with ⟨rfl, q1, q2⟩ | ⟨rfl, L1, z, L2, q1, q2, q3, q4⟩ <;> rw [holds_def]
          · try simp (disch := first | omega | (simp only [ints_length, List.length_replicate, List.length_set]; done) | (simp only [ints_length, List.length_replicate, List.length_set]; omega)) only [Sall,evalOp,init,binE,binI,unE,convE,okNil,builtE,gv,TD.isAgg,resV,↓reduceIte,Nat.reduceEqDiff,reduceCtorEq,Nat.reduceAdd,Nat.reduceMul,Nat.reduceLeDiff,quietOp,blindOp,Int.reduceEq,Int.reduceLT,Int.reduceLE,Nat.reduceLT,ti2,ti3,ti4,ti45,ti46,ti38,ti25,ti30,ti22,ti32,ti24,ti95,ti172,ti169,ti165,ti166,ti65,ti143,ti87, Bool.not_true, h19, h18, h17, h0, h1, h2, w64]
            refine ⟨nums.length - (c + 1), by omega, c + 1, rfl, by omega, rfl, by omega, rows5, ?_⟩
            rw [hsucc]
            refine ⟨fun z hz => (List.mem_append.1 hz).elim (hpc z) (q1 z), ?_⟩
            rw [← List.append_assoc]; exact q2
          · try simp (disch := first | omega | (simp only [ints_length, List.length_replicate, List.length_set]; done) | (simp only [ints_length, List.length_replicate, List.length_set]; omega)) only [Sall,evalOp,init,binE,binI,unE,convE,okNil,builtE,gv,TD.isAgg,resV,↓reduceIte,Nat.reduceEqDiff,reduceCtorEq,Nat.reduceAdd,Nat.reduceMul,Nat.reduceLeDiff,quietOp,blindOp,Int.reduceEq,Int.reduceLT,Int.reduceLE,Nat.reduceLT,ti2,ti3,ti4,ti45,ti46,ti38,ti25,ti30,ti22,ti32,ti24,ti95,ti172,ti169,ti165,ti166,ti65,ti143,ti87, Bool.not_false]
            refine ⟨by omega, rows5, .inr ⟨rfl, ordP nums f y c ++ L1, z, ?_⟩⟩
            obtain ⟨L3, hL3⟩ := hpre
            refine ⟨L2 ++ L3, ?_, fun w hw => (List.mem_append.1 hw).elim (hpc w) (q2 w), q3, ?_⟩
            · rw [hL3, hsucc, q1]; simp
            · rw [← List.append_assoc]; exact q4
      · have hc : c = nums.length := by omega
        subst hc
        rw [ordP_all] at hpc hS'
        try simp (disch := first | omega | (simp only [ints_length, List.length_replicate, List.length_set]; done) | (simp only [ints_length, List.length_replicate, List.length_set]; omega)) only [Sall,evalOp,init,binE,binI,unE,convE,okNil,builtE,gv,TD.isAgg,resV,↓reduceIte,Nat.reduceEqDiff,reduceCtorEq,Nat.reduceAdd,Nat.reduceMul,Nat.reduceLeDiff,quietOp,blindOp,Int.reduceEq,Int.reduceLT,Int.reduceLE,Nat.reduceLT,ti2,ti3,ti4,ti45,ti46,ti38,ti25,ti30,ti22,ti32,ti24,ti95,ti172,ti169,ti165,ti166,ti65,ti143,ti87, true_and]
        exact ⟨hnx, hrows, .inl ⟨rfl, hpc, hS'⟩⟩
end Go.Proofs.Ytgkmdfjjlghecaa.A
end

section
set_option linter.unusedSimpArgs false
set_option linter.unusedVariables false
set_option maxRecDepth 100000
set_option maxHeartbeats 2000000
namespace Go.Proofs.Ytgkmdfjjlghecaa.A
open Go Go.Abs Go.RowKit

theorem evo_pnil (t : T) : evo t (.const (.pointer none)) = some (.pointer none) := (rfl)

theorem l01From_c (cv : Value) (nb : Nat) (H : AH) (hnb : nb ≤ 4611686018427387904) (hc : CodeOk H cv nb) :
    ACalls Try.prog 112 [cv] H (fun v H' => v = .pointer (some ⟨H.next, 0, none⟩) ∧ Up H.next H H' ∧ Sc H' ∧ H.next < H'.next ∧ Src cv nb H.next H') := by
  refine ACalls.wf (by kernel_rfl) fun hs => acalls_of_awp [.tmp 2] Try.func112 (by kernel_rfl) rfl rfl (Nat.le_of_ble_eq_true rfl) (by kernel_rfl) ?_
  have hone := hc.one
  have hw1 := cells_of_one hone
  have hw2 := noTuple_of_one hone
  have hln := hc.len
  have hz : [Value.slice none 0 0, .int .i64 0, .int .u64 0] = [Value.slice none 0 0, .int .i64 0, .int .u64 0] := rfl
  try simp (disch := first | omega | (simp only [ints_length, List.length_replicate, List.length_set]; done) | (simp only [ints_length, List.length_replicate, List.length_set]; omega)) only [Sall,evalOp,init,binE,binI,unE,convE,okNil,builtE,gv,TD.isAgg,resV,↓reduceIte,Nat.reduceEqDiff,reduceCtorEq,Nat.reduceAdd,Nat.reduceMul,Nat.reduceLeDiff,quietOp,blindOp,Int.reduceEq,Int.reduceLT,Int.reduceLE,Nat.reduceLT,ti2,ti3,ti4,ti45,ti46,ti38,ti25,ti30,ti22,ti32,ti24,ti95,ti172,ti169,ti165,ti166,ti65,ti143,ti87,ti110,ti56,ti101,ti5,ti159,ti62,ti161,ti51,ti57,ti9, hone, hw1, hw2, hln, builtE, evo_pnil]
  obtain ⟨h0, eh0⟩ : ∃ h0, h0 = IntKind.u64.wrap (13791 + IntKind.u64.wrap (nb : Int)) := ⟨_, rfl⟩
  rw [← eh0]
  have o1 := (Ow.refl hs).push ⟨161, true, [cv, .int .i64 0, .int .u64 h0]⟩
  refine awp_loop (fun z t H' => ∃ (j : Nat) (h : Int), z = nb - j ∧ j ≤ nb ∧ t 4 = .int .i64 j ∧ t 3 = .pointer (some ⟨H.next, 0, none⟩) ∧ t 0 = cv ∧ Ow H H' [.row H.next ⟨161, true, [cv, .int .i64 0, .int .u64 h]⟩]) nb ?_ ?_
  · refine ⟨0, h0, by omega, by omega, ?_⟩
    try simp (disch := first | omega | (simp only [ints_length, List.length_replicate, List.length_set]; done) | (simp only [ints_length, List.length_replicate, List.length_set]; omega)) only [Sall,evalOp,init,binE,binI,unE,convE,okNil,builtE,gv,TD.isAgg,resV,↓reduceIte,Nat.reduceEqDiff,reduceCtorEq,Nat.reduceAdd,Nat.reduceMul,Nat.reduceLeDiff,quietOp,blindOp,Int.reduceEq,Int.reduceLT,Int.reduceLE,Nat.reduceLT,ti2,ti3,ti4,ti45,ti46,ti38,ti25,ti30,ti22,ti32,ti24,ti95,ti172,ti169,ti165,ti166,ti65,ti143,ti87,ti110,ti56,ti101,ti5,ti159,ti62,ti161,ti51,ti57,ti9, Int.natCast_zero]
    exact o1
  · rintro z t H' ⟨j, h, hz, hj, h4, h3, h0', o2⟩
    have g0 := (o2.rowAt 0 rfl).1
    have n0 := (o2.rowAt 0 rfl).2
    by_cases c1 : j < nb
    · have e1 : decide ((j : Int) < (nb : Int)) = true := decide_eq_true (by omega)
      by_cases c2 : j < 4096
      · have e2 : decide ((j : Int) < 4096) = true := decide_eq_true (by omega)
        try simp (disch := first | omega | (simp only [ints_length, List.length_replicate, List.length_set]; done) | (simp only [ints_length, List.length_replicate, List.length_set]; omega)) only [Sall,evalOp,init,binE,binI,unE,convE,okNil,builtE,gv,TD.isAgg,resV,↓reduceIte,Nat.reduceEqDiff,reduceCtorEq,Nat.reduceAdd,Nat.reduceMul,Nat.reduceLeDiff,quietOp,blindOp,Int.reduceEq,Int.reduceLT,Int.reduceLE,Nat.reduceLT,ti2,ti3,ti4,ti45,ti46,ti38,ti25,ti30,ti22,ti32,ti24,ti95,ti172,ti169,ti165,ti166,ti65,ti143,ti87,ti110,ti56,ti101,ti5,ti159,ti62,ti161,ti51,ti57,ti9, h4, h0', builtE, hln, e1, e2]
        have hc' : CodeOk H' cv nb := by
          rcases hc with ⟨q1, q2⟩ | ⟨i, o, u, c, r, q1, q2, q3⟩
          · exact .inl ⟨q1, q2⟩
          · exact .inr ⟨i, o, u, c, r, q1, o2.old hs _ _ q2, q3⟩
        obtain ⟨ci, co, cu, cc, cr, b, rfl, cr1, cr2, cb1, cb2⟩ := hc'.get c1
        try simp (disch := first | omega | (simp only [ints_length, List.length_replicate, List.length_set]; done) | (simp only [ints_length, List.length_replicate, List.length_set]; omega)) only [Sall,evalOp,init,binE,binI,unE,convE,okNil,builtE,gv,TD.isAgg,resV,↓reduceIte,Nat.reduceEqDiff,reduceCtorEq,Nat.reduceAdd,Nat.reduceMul,Nat.reduceLeDiff,quietOp,blindOp,Int.reduceEq,Int.reduceLT,Int.reduceLE,Nat.reduceLT,ti2,ti3,ti4,ti45,ti46,ti38,ti25,ti30,ti22,ti32,ti24,ti95,ti172,ti169,ti165,ti166,ti65,ti143,ti87,ti110,ti56,ti101,ti5,ti159,ti62,ti161,ti51,ti57,ti9, h4, h3]
        refine draw_id (by kernel_rfl) (by kernel_rfl) ?_
        try simp (disch := first | omega | (simp only [ints_length, List.length_replicate, List.length_set]; done) | (simp only [ints_length, List.length_replicate, List.length_set]; omega)) only [Sall,evalOp,init,binE,binI,unE,convE,okNil,builtE,gv,TD.isAgg,resV,↓reduceIte,Nat.reduceEqDiff,reduceCtorEq,Nat.reduceAdd,Nat.reduceMul,Nat.reduceLeDiff,quietOp,blindOp,Int.reduceEq,Int.reduceLT,Int.reduceLE,Nat.reduceLT,ti2,ti3,ti4,ti45,ti46,ti38,ti25,ti30,ti22,ti32,ti24,ti95,ti172,ti169,ti165,ti166,ti65,ti143,ti87,ti110,ti56,ti101,ti5,ti159,ti62,ti161,ti51,ti57,ti9, h4, h3, h0', g0, cr1, cr2, hone]
        (repeat refine And.intro (by omega) ?_)
        exact ⟨.inr (.inl (by kernel_rfl)), nb - (j + 1), by omega, j + 1, _, rfl, by omega, w64 (by omega), o2.putRow 0 rfl⟩
      · have e2 : decide ((j : Int) < 4096) = false := decide_eq_false (by omega)
        try simp (disch := first | omega | (simp only [ints_length, List.length_replicate, List.length_set]; done) | (simp only [ints_length, List.length_replicate, List.length_set]; omega)) only [Sall,evalOp,init,binE,binI,unE,convE,okNil,builtE,gv,TD.isAgg,resV,↓reduceIte,Nat.reduceEqDiff,reduceCtorEq,Nat.reduceAdd,Nat.reduceMul,Nat.reduceLeDiff,quietOp,blindOp,Int.reduceEq,Int.reduceLT,Int.reduceLE,Nat.reduceLT,ti2,ti3,ti4,ti45,ti46,ti38,ti25,ti30,ti22,ti32,ti24,ti95,ti172,ti169,ti165,ti166,ti65,ti143,ti87,ti110,ti56,ti101,ti5,ti159,ti62,ti161,ti51,ti57,ti9, h4, h0', h3, builtE, hln, e1, e2]
        exact ⟨o2.up, o2.sc, by omega, ⟨0, h, g0, Nat.zero_le _⟩⟩
    · have e1 : decide ((j : Int) < (nb : Int)) = false := decide_eq_false (by omega)
      try simp (disch := first | omega | (simp only [ints_length, List.length_replicate, List.length_set]; done) | (simp only [ints_length, List.length_replicate, List.length_set]; omega)) only [Sall,evalOp,init,binE,binI,unE,convE,okNil,builtE,gv,TD.isAgg,resV,↓reduceIte,Nat.reduceEqDiff,reduceCtorEq,Nat.reduceAdd,Nat.reduceMul,Nat.reduceLeDiff,quietOp,blindOp,Int.reduceEq,Int.reduceLT,Int.reduceLE,Nat.reduceLT,ti2,ti3,ti4,ti45,ti46,ti38,ti25,ti30,ti22,ti32,ti24,ti95,ti172,ti169,ti165,ti166,ti65,ti143,ti87,ti110,ti56,ti101,ti5,ti159,ti62,ti161,ti51,ti57,ti9, h4, h0', h3, builtE, hln, e1]
      exact ⟨o2.up, o2.sc, by omega, ⟨0, h, g0, Nat.zero_le _⟩⟩

/-- A list of all numbers below n, each once. -/
structure PermL (n : Nat) (l : List Int) : Prop where
  len : l.length = n
  nod : l.Nodup
  rng : ∀ x ∈ l, 0 ≤ x ∧ x < (n : Int)
  all : ∀ x : Nat, x < n → (x : Int) ∈ l
theorem PermL.zero : PermL 0 [] := ⟨rfl, by simp, by simp, fun x hx => by omega⟩
theorem PermL.ins {n : Nat} {l : List Int} (h : PermL n l) (a : Nat) (ha : a ≤ n) : PermL (n + 1) (l.take a ++ [(n : Int)] ++ l.drop a) := by
  have hta := List.take_append_drop a l
  have hp : (l.take a ++ [(n : Int)] ++ l.drop a).Perm ((n : Int) :: l) := by
    rw [List.append_assoc]
    refine (List.perm_middle (l₁ := l.take a) (l₂ := l.drop a) (a := (n : Int))).trans ?_
    rw [hta]
  refine ⟨?_, ?_, fun x hx => ?_, fun x hx => ?_⟩
  · rw [hp.length_eq, List.length_cons, h.len]
  · rw [hp.nodup_iff, List.nodup_cons]
    exact ⟨fun hm => by have := h.rng _ hm; omega, h.nod⟩
  · have := hp.mem_iff.1 hx
    rcases List.mem_cons.1 this with e | e
    · omega
    · have := h.rng _ e; omega
  · rw [hp.mem_iff]
    by_cases e : x = n
    · rw [e]; simp
    · exact List.mem_cons_of_mem _ (h.all x (by omega))
theorem PermL.toN {n : Nat} {l : List Int} (h : PermL n l) : PermN n l := by
  have hg : ∀ j, j < n → ∃ hj : j < l.length, l.getD j 0 = l[j] := fun j hj => ⟨by rw [h.len]; exact hj, by rw [List.getD_eq_getElem?_getD, List.getElem?_eq_getElem (by rw [h.len]; exact hj)]; rfl⟩
  refine ⟨h.len, fun j hj => ?_, fun i j hi hj e => ?_, fun x hx => ?_⟩
  · obtain ⟨k, e⟩ := hg j hj
    rw [e]; exact h.rng _ (List.getElem_mem _)
  · obtain ⟨k1, e1⟩ := hg i hi
    obtain ⟨k2, e2⟩ := hg j hj
    rw [e1, e2] at e
    exact (List.getElem_inj h.nod).1 e
  · obtain ⟨j, hj, e⟩ := List.getElem_of_mem (h.all x hx)
    refine ⟨j, by rw [← h.len]; exact hj, ?_⟩
    obtain ⟨k, e2⟩ := hg j (by rw [← h.len]; exact hj)
    rw [e2, e]

theorem frcut {P : Program} {E : TI} {K : Value → AH → Prop} {H : AH} {i n a b : Nat} {lo hi : Option Int} (hE : E.size = 1) (ha : lo.getD 0 = (a : Int)) (hb : hi.getD (n : Int) = (b : Int)) (hab : a ≤ b) (hbn : b ≤ n) (hK : K (.slice (some ⟨i, a, some 1⟩) (b - a) (b - a)) H) :
    runOut P H (sliceE E (.slice (some ⟨i, 0, some 1⟩) n n) lo hi none H) K := by
  unfold sliceE
  rw [if_neg (by simp)]
  simp only [asSl_some, runOut_need, runOut_val, ha, hb, Int.toNat_natCast, hE, Nat.mul_one, Nat.zero_add]
  exact ⟨⟨by omega, by omega, by omega, trivial⟩, hK⟩
theorem appE_zero {P : Program} {E : TI} {K : Value → AH → Prop} {H : AH} {ty : TypeId} {i o z n c : Nat} {xs : List Value} (hK : K (.slice (some ⟨i, o, some z⟩) n c) H) : runOut P H (appE E ty (.slice (some ⟨i, o, some z⟩) n c) xs 0 H) K := by
  unfold appE
  rw [if_pos rfl]
  simp only [asSl_some, runOut_need, runOut_val]
  exact ⟨(fun h => by cases h), hK⟩
theorem cp_pre {H : AH} {i a n : Nat} {ty : TypeId} {l : List Int} (hr : H.row i = some ⟨ty, true, ints l⟩) (ha : a ≤ l.length) : Cp H (.slice (some ⟨i, 0, some 1⟩) a n) (l.take a) := by
  have hl : (l.take a).length = a := by rw [List.length_take]; omega
  refine ⟨⟨by omega, .inr ⟨i, 0, some 1, n, _, by rw [hl], hr, by rw [hl, ints_length]; omega, ?_⟩⟩, fun h => .inr ⟨i, n, _, by rw [show a = 0 by omega], hr, rfl⟩⟩
  rw [hl, Nat.mul_one]
  simp [seg, ints, List.map_take]

theorem l01DrawOrder_c (cv : Value) (nb si : Nat) (n : Int) (H : AH) (hn : n ≤ 4096) (hnb : nb ≤ 4611686018427387904) (hs : Src cv nb si H) (hc : CodeX cv nb si H) :
    ACalls Try.prog 189 [.pointer (some ⟨si, 0, none⟩), .int .i64 n] H (fun v H' => ∃ (l : List Int) (H1 : AH), SrcB cv nb si H H1 ∧ Ow H1 H' [.sl 1 2 v n.toNat (ints l)] ∧ PermL n.toNat l) := by
  refine ACalls.wf (by kernel_rfl) fun hsc => acalls_of_awp [.tmp 4] Try.func189 (by kernel_rfl) rfl rfl (Nat.le_of_ble_eq_true rfl) (by kernel_rfl) ?_
  obtain ⟨_, _, hrow, _⟩ := id hs
  have hsi := hsc _ _ hrow
  have o1 := (Ow.refl hsc).pushSl (k := 1) (n := 0) (ty := 2) (vs := ints []) rfl
  try simp (disch := first | omega | (simp only [ints_length, List.length_replicate, List.length_set]; done) | (simp only [ints_length, List.length_replicate, List.length_set]; omega)) only [Sall,evalOp,init,binE,binI,unE,convE,okNil,builtE,gv,TD.isAgg,resV,↓reduceIte,Nat.reduceEqDiff,reduceCtorEq,Nat.reduceAdd,Nat.reduceMul,Nat.reduceLeDiff,quietOp,blindOp,Int.reduceEq,Int.reduceLT,Int.reduceLE,Nat.reduceLT,ti2,ti3,ti4,ti45,ti46,ti38,ti25,ti30,ti22,ti32,ti24,ti95,ti172,ti169,ti165,ti166,ti65,ti143,ti87,ti110,ti56,ti101,ti5,ti159,ti62,ti161,ti51,ti57,ti9, zeros_zero]
  refine awp_loop (fun z t H' => ∃ (i ui : Nat) (l : List Int) (B : AH), z = n.toNat - i ∧ i ≤ n.toNat ∧ t 6 = .int .i64 i ∧ t 5 = .slice (some ⟨ui, 0, some 1⟩) i i ∧ t 0 = .pointer (some ⟨si, 0, none⟩) ∧ t 1 = .int .i64 n ∧ SrcB cv nb si H B ∧ Ow B H' [.sl 1 2 (.slice (some ⟨ui, 0, some 1⟩) i i) i (ints l)] ∧ PermL i l) n.toNat ?_ ?_
  · refine ⟨0, H.next, [], H, by omega, by omega, ?_⟩
    try simp (disch := first | omega | (simp only [ints_length, List.length_replicate, List.length_set]; done) | (simp only [ints_length, List.length_replicate, List.length_set]; omega)) only [Sall,evalOp,init,binE,binI,unE,convE,okNil,builtE,gv,TD.isAgg,resV,↓reduceIte,Nat.reduceEqDiff,reduceCtorEq,Nat.reduceAdd,Nat.reduceMul,Nat.reduceLeDiff,quietOp,blindOp,Int.reduceEq,Int.reduceLT,Int.reduceLE,Nat.reduceLT,ti2,ti3,ti4,ti45,ti46,ti38,ti25,ti30,ti22,ti32,ti24,ti95,ti172,ti169,ti165,ti166,ti65,ti143,ti87,ti110,ti56,ti101,ti5,ti159,ti62,ti161,ti51,ti57,ti9, Int.natCast_zero]
    exact ⟨SrcB.refl hs, o1, PermL.zero⟩
  · rintro z t H' ⟨i, ui, l, B, hz, hi, h6, h5, h0, h1, hB, o2, hp⟩
    try simp (disch := first | omega | (simp only [ints_length, List.length_replicate, List.length_set]; done) | (simp only [ints_length, List.length_replicate, List.length_set]; omega)) only [Sall,evalOp,init,binE,binI,unE,convE,okNil,builtE,gv,TD.isAgg,resV,↓reduceIte,Nat.reduceEqDiff,reduceCtorEq,Nat.reduceAdd,Nat.reduceMul,Nat.reduceLeDiff,quietOp,blindOp,Int.reduceEq,Int.reduceLT,Int.reduceLE,Nat.reduceLT,ti2,ti3,ti4,ti45,ti46,ti38,ti25,ti30,ti22,ti32,ti24,ti95,ti172,ti169,ti165,ti166,ti65,ti143,ti87,ti110,ti56,ti101,ti5,ti159,ti62,ti161,ti51,ti57,ti9, h6, h1]
    have hsiB : si < B.next := by rw [hB.next]; exact hsi
    refine condC_dec (fun hh => ?_) (fun hh => ?_)
    · try simp (disch := first | omega | (simp only [ints_length, List.length_replicate, List.length_set]; done) | (simp only [ints_length, List.length_replicate, List.length_set]; omega)) only [Sall,evalOp,init,binE,binI,unE,convE,okNil,builtE,gv,TD.isAgg,resV,↓reduceIte,Nat.reduceEqDiff,reduceCtorEq,Nat.reduceAdd,Nat.reduceMul,Nat.reduceLeDiff,quietOp,blindOp,Int.reduceEq,Int.reduceLT,Int.reduceLE,Nat.reduceLT,ti2,ti3,ti4,ti45,ti46,ti38,ti25,ti30,ti22,ti32,ti24,ti95,ti172,ti169,ti165,ti166,ti65,ti143,ti87,ti110,ti56,ti101,ti5,ti159,ti62,ti161,ti51,ti57,ti9, h6, h0, w64]
      refine (l01Next_c cv nb si ((i : Int) + 1) H' (by omega) hnb (Ow.srcAt o2 hB hsi) (hc.later fun j r hj hr => Ow.oldX o2 hB hsc j r hj hr)).ex ?_
      rintro a H2 ⟨ha, hS⟩
      have hai : a ≤ i := by omega
      obtain ⟨B2, b1, o3⟩ := Ow.src o2 hsiB hS
      have hB2 := hB.trans b1
      have hl := hp.len
      have rU3 := (o3.getV 0 rfl).2.2
      refine Holds.mp ?_
      try simp (disch := first | omega | (simp only [ints_length, List.length_replicate, List.length_set]; done) | (simp only [ints_length, List.length_replicate, List.length_set]; omega)) only [Sall,evalOp,init,binE,binI,unE,convE,okNil,builtE,gv,TD.isAgg,resV,↓reduceIte,Nat.reduceEqDiff,reduceCtorEq,Nat.reduceAdd,Nat.reduceMul,Nat.reduceLeDiff,quietOp,blindOp,Int.reduceEq,Int.reduceLT,Int.reduceLE,Nat.reduceLT,ti2,ti3,ti4,ti45,ti46,ti38,ti25,ti30,ti22,ti32,ti24,ti95,ti172,ti169,ti165,ti166,ti65,ti143,ti87,ti110,ti56,ti101,ti5,ti159,ti62,ti161,ti51,ti57,ti9, h6, h5]
      refine draw_tree (OT.run [0, 1, 2, 4, 7, 8, 9] (.two 3 5 (OT.run [5, 6, 10, 11] .nil) (OT.run [3, 6, 10, 11] .nil))) (by kernel_rfl) (by kernel_rfl) (Nat.le_of_ble_eq_true rfl) ?_
      try simp (disch := first | omega | (simp only [ints_length, List.length_replicate, List.length_set]; done) | (simp only [ints_length, List.length_replicate, List.length_set]; omega)) only [Sall,evalOp,init,binE,binI,unE,convE,okNil,builtE,gv,TD.isAgg,resV,↓reduceIte,Nat.reduceEqDiff,reduceCtorEq,Nat.reduceAdd,Nat.reduceMul,Nat.reduceLeDiff,quietOp,blindOp,Int.reduceEq,Int.reduceLT,Int.reduceLE,Nat.reduceLT,ti2,ti3,ti4,ti45,ti46,ti38,ti25,ti30,ti22,ti32,ti24,ti95,ti172,ti169,ti165,ti166,ti65,ti143,ti87,ti110,ti56,ti101,ti5,ti159,ti62,ti161,ti51,ti57,ti9, awpT_nil, awpT_one, awpT_run_nil, awpT_run_cons, h6, h5]
      refine frcut (a := 0) (b := a) rfl rfl rfl (Nat.zero_le _) hai ?_
      try simp (disch := first | omega | (simp only [ints_length, List.length_replicate, List.length_set]; done) | (simp only [ints_length, List.length_replicate, List.length_set]; omega)) only [Sall,evalOp,init,binE,binI,unE,convE,okNil,builtE,gv,TD.isAgg,resV,↓reduceIte,Nat.reduceEqDiff,reduceCtorEq,Nat.reduceAdd,Nat.reduceMul,Nat.reduceLeDiff,quietOp,blindOp,Int.reduceEq,Int.reduceLT,Int.reduceLE,Nat.reduceLT,ti2,ti3,ti4,ti45,ti46,ti38,ti25,ti30,ti22,ti32,ti24,ti95,ti172,ti169,ti165,ti166,ti65,ti143,ti87,ti110,ti56,ti101,ti5,ti159,ti62,ti161,ti51,ti57,ti9, awpT_nil, awpT_one, awpT_run_nil, awpT_run_cons, h6, h5]
      refine frcut (a := a) (b := i) rfl rfl rfl hai (Nat.le_refl _) ?_
      have hsg : seg (ints l) a (i - a) = ints (l.drop a) := by
        rw [ints_seg, List.take_of_length_le (by rw [List.length_drop]; omega)]
      have hm6 : PermL (i + 1) (l.take a ++ [(i : Int)] ++ l.drop a) := hp.ins a hai
      have fin7 : ∀ (A : AH) (H7 : AH) (x y : Th), Ow A H7 [x, y] → Ow A H7 [y] := fun A H7 x y o => o.sub (fun _ => 1) (fun j hj => by
          obtain rfl : j = 0 := by simp at hj; omega
          rfl) (fun x y hx hy _ => by simp at hx hy; omega)
      have hla : (l.take a).length = a := by rw [List.length_take]; omega
      have zz : zeros 1 [.int .i64 0] = [.int .i64 0] := rfl
      try simp (disch := first | omega | (simp only [ints_length, List.length_replicate, List.length_set]; done) | (simp only [ints_length, List.length_replicate, List.length_set]; omega)) only [Sall,evalOp,init,binE,binI,unE,convE,okNil,builtE,gv,TD.isAgg,resV,↓reduceIte,Nat.reduceEqDiff,reduceCtorEq,Nat.reduceAdd,Nat.reduceMul,Nat.reduceLeDiff,quietOp,blindOp,Int.reduceEq,Int.reduceLT,Int.reduceLE,Nat.reduceLT,ti2,ti3,ti4,ti45,ti46,ti38,ti25,ti30,ti22,ti32,ti24,ti95,ti172,ti169,ti165,ti166,ti65,ti143,ti87,ti110,ti56,ti101,ti5,ti159,ti62,ti161,ti51,ti57,ti9, awpT_nil, awpT_one, awpT_run_nil, awpT_run_cons, h6, h5, Nat.sub_zero]
      refine awpT_two ?_ ?_
      · try simp (disch := first | omega | (simp only [ints_length, List.length_replicate, List.length_set]; done) | (simp only [ints_length, List.length_replicate, List.length_set]; omega)) only [Sall,evalOp,init,binE,binI,unE,convE,okNil,builtE,gv,TD.isAgg,resV,↓reduceIte,Nat.reduceEqDiff,reduceCtorEq,Nat.reduceAdd,Nat.reduceMul,Nat.reduceLeDiff,quietOp,blindOp,Int.reduceEq,Int.reduceLT,Int.reduceLE,Nat.reduceLT,ti2,ti3,ti4,ti45,ti46,ti38,ti25,ti30,ti22,ti32,ti24,ti95,ti172,ti169,ti165,ti166,ti65,ti143,ti87,ti110,ti56,ti101,ti5,ti159,ti62,ti161,ti51,ti57,ti9, awpT_nil, awpT_one, awpT_run_nil, awpT_run_cons, h6, h5]
        refine (l01Own_c _ (l.take a) H2 (cp_pre rU3 (by omega)) (by omega)).sc.mono ?_
        rintro w H4 ⟨⟨up4, hf4⟩, sc4⟩
        have o4 := o3.call (Ow.of_fr up4 sc4 hf4)
        rw [hla] at o4
        have rU4 := (o4.getV 0 rfl).2
        refine ⟨.inr (.inr (up4.le o3.sc)), ?_⟩
        have ne4 : ¬ ui = H4.next := by omega
        try simp (disch := first | omega | (simp only [ints_length, List.length_replicate, List.length_set]; done) | (simp only [ints_length, List.length_replicate, List.length_set]; omega)) only [Sall,evalOp,init,binE,binI,unE,convE,okNil,builtE,gv,TD.isAgg,resV,↓reduceIte,Nat.reduceEqDiff,reduceCtorEq,Nat.reduceAdd,Nat.reduceMul,Nat.reduceLeDiff,quietOp,blindOp,Int.reduceEq,Int.reduceLT,Int.reduceLE,Nat.reduceLT,ti2,ti3,ti4,ti45,ti46,ti38,ti25,ti30,ti22,ti32,ti24,ti95,ti172,ti169,ti165,ti166,ti65,ti143,ti87,ti110,ti56,ti101,ti5,ti159,ti62,ti161,ti51,ti57,ti9, awpT_nil, awpT_one, awpT_run_nil, awpT_run_cons, h6, h5, zz, slCells]
        (repeat refine And.intro (by omega) ?_)
        refine ⟨.inr (.inr (o4.sc.le _)), ?_⟩
        try simp (disch := first | omega | (simp only [ints_length, List.length_replicate, List.length_set]; done) | (simp only [ints_length, List.length_replicate, List.length_set]; omega)) only [Sall,evalOp,init,binE,binI,unE,convE,okNil,builtE,gv,TD.isAgg,resV,↓reduceIte,Nat.reduceEqDiff,reduceCtorEq,Nat.reduceAdd,Nat.reduceMul,Nat.reduceLeDiff,quietOp,blindOp,Int.reduceEq,Int.reduceLT,Int.reduceLE,Nat.reduceLT,ti2,ti3,ti4,ti45,ti46,ti38,ti25,ti30,ti22,ti32,ti24,ti95,ti172,ti169,ti165,ti166,ti65,ti143,ti87,ti110,ti56,ti101,ti5,ti159,ti62,ti161,ti51,ti57,ti9, awpT_nil, awpT_one, awpT_run_nil, awpT_run_cons, h6, h5, zz, slCells]
        (repeat refine And.intro (by omega) ?_)
        refine (o4.tmp ⟨2, true, [.int .i64 i]⟩).app 1 (ms := ints [(i : Int)]) rfl rfl (by omega) rfl (by omega) (by decide) (by omega) ?_
        intro v6 H6 n6 o6
        rw [ints_append] at o6
        refine ⟨.inr (.inl (by kernel_rfl)), ?_⟩
        try simp (disch := first | omega | (simp only [ints_length, List.length_replicate, List.length_set]; done) | (simp only [ints_length, List.length_replicate, List.length_set]; omega)) only [Sall,evalOp,init,binE,binI,unE,convE,okNil,builtE,gv,TD.isAgg,resV,↓reduceIte,Nat.reduceEqDiff,reduceCtorEq,Nat.reduceAdd,Nat.reduceMul,Nat.reduceLeDiff,quietOp,blindOp,Int.reduceEq,Int.reduceLT,Int.reduceLE,Nat.reduceLT,ti2,ti3,ti4,ti45,ti46,ti38,ti25,ti30,ti22,ti32,ti24,ti95,ti172,ti169,ti165,ti166,ti65,ti143,ti87,ti110,ti56,ti101,ti5,ti159,ti62,ti161,ti51,ti57,ti9, awpT_nil, awpT_one, awpT_run_nil, awpT_run_cons, h6, h5]
        have rU := (o6.getV 0 rfl).2.2
        try simp (disch := first | omega | (simp only [ints_length, List.length_replicate, List.length_set]; done) | (simp only [ints_length, List.length_replicate, List.length_set]; omega)) only [Sall,evalOp,init,binE,binI,unE,convE,okNil,builtE,gv,TD.isAgg,resV,↓reduceIte,Nat.reduceEqDiff,reduceCtorEq,Nat.reduceAdd,Nat.reduceMul,Nat.reduceLeDiff,quietOp,blindOp,Int.reduceEq,Int.reduceLT,Int.reduceLE,Nat.reduceLT,ti2,ti3,ti4,ti45,ti46,ti38,ti25,ti30,ti22,ti32,ti24,ti95,ti172,ti169,ti165,ti166,ti65,ti143,ti87,ti110,ti56,ti101,ti5,ti159,ti62,ti161,ti51,ti57,ti9, awpT_nil, awpT_one, awpT_run_nil, awpT_run_cons, h6, h5, slCells, rU, hsg, hl, ints_length]
        (repeat refine And.intro (by omega) ?_)
        by_cases hd : a < i
        · refine o6.app 1 (vs := ints (l.take a ++ [(i : Int)])) (n := a + 1) (c := i - a) (ms := ints (l.drop a)) rfl rfl (by omega) (by rw [ints_length, List.length_drop]; omega) (by omega) (by decide) (by omega) ?_
          intro v7 H7 n7 o7
          rw [show a + 1 + (i - a) = i + 1 by omega, ints_append] at o7
          have o8 : Ow B2 H7 [.sl 1 2 (.slice (some ⟨ui, 0, some 1⟩) i i) i (ints l), .sl 1 2 v7 (i + 1) (ints (l.take a ++ [(i : Int)] ++ l.drop a))] := o7
          obtain ⟨u7, q1, q2, rfl, q4⟩ := o8.get 1 rfl (by omega)
          try simp (disch := first | omega | (simp only [ints_length, List.length_replicate, List.length_set]; done) | (simp only [ints_length, List.length_replicate, List.length_set]; omega)) only [Sall,evalOp,init,binE,binI,unE,convE,okNil,builtE,gv,TD.isAgg,resV,↓reduceIte,Nat.reduceEqDiff,reduceCtorEq,Nat.reduceAdd,Nat.reduceMul,Nat.reduceLeDiff,quietOp,blindOp,Int.reduceEq,Int.reduceLT,Int.reduceLE,Nat.reduceLT,ti2,ti3,ti4,ti45,ti46,ti38,ti25,ti30,ti22,ti32,ti24,ti95,ti172,ti169,ti165,ti166,ti65,ti143,ti87,ti110,ti56,ti101,ti5,ti159,ti62,ti161,ti51,ti57,ti9, awpT_nil, awpT_one, awpT_run_nil, awpT_run_cons, h6, h5, h0, h1, w64]
          exact ⟨.inr (.inl (by kernel_rfl)), n.toNat - (i + 1), by omega, i + 1, u7, _, B2, rfl, by omega, by omega, rfl, hB2, fin7 _ _ _ _ o8, hm6⟩
        · have hai2 : a = i := by omega
          subst hai2
          have o8 : Ow B2 H6 [.sl 1 2 (.slice (some ⟨ui, 0, some 1⟩) a a) a (ints l), .sl 1 2 v6 (a + 1) (ints (l.take a ++ [(a : Int)]))] := o6
          obtain ⟨u7, q1, q2, rfl, q4⟩ := o8.get 1 rfl (by omega)
          rw [Nat.sub_self]
          refine appE_zero ?_
          have hd0 : l.drop a = [] := List.drop_eq_nil_of_le (by omega)
          rw [hd0, List.append_nil] at hm6
          try simp (disch := first | omega | (simp only [ints_length, List.length_replicate, List.length_set]; done) | (simp only [ints_length, List.length_replicate, List.length_set]; omega)) only [Sall,evalOp,init,binE,binI,unE,convE,okNil,builtE,gv,TD.isAgg,resV,↓reduceIte,Nat.reduceEqDiff,reduceCtorEq,Nat.reduceAdd,Nat.reduceMul,Nat.reduceLeDiff,quietOp,blindOp,Int.reduceEq,Int.reduceLT,Int.reduceLE,Nat.reduceLT,ti2,ti3,ti4,ti45,ti46,ti38,ti25,ti30,ti22,ti32,ti24,ti95,ti172,ti169,ti165,ti166,ti65,ti143,ti87,ti110,ti56,ti101,ti5,ti159,ti62,ti161,ti51,ti57,ti9, awpT_nil, awpT_one, awpT_run_nil, awpT_run_cons, h6, h5, h0, h1, w64]
          exact ⟨.inr (.inl (by kernel_rfl)), n.toNat - (a + 1), by omega, a + 1, u7, _, B2, rfl, by omega, by omega, rfl, hB2, fin7 _ _ _ _ o8, hm6⟩
      · try simp (disch := first | omega | (simp only [ints_length, List.length_replicate, List.length_set]; done) | (simp only [ints_length, List.length_replicate, List.length_set]; omega)) only [Sall,evalOp,init,binE,binI,unE,convE,okNil,builtE,gv,TD.isAgg,resV,↓reduceIte,Nat.reduceEqDiff,reduceCtorEq,Nat.reduceAdd,Nat.reduceMul,Nat.reduceLeDiff,quietOp,blindOp,Int.reduceEq,Int.reduceLT,Int.reduceLE,Nat.reduceLT,ti2,ti3,ti4,ti45,ti46,ti38,ti25,ti30,ti22,ti32,ti24,ti95,ti172,ti169,ti165,ti166,ti65,ti143,ti87,ti110,ti56,ti101,ti5,ti159,ti62,ti161,ti51,ti57,ti9, awpT_nil, awpT_one, awpT_run_nil, awpT_run_cons, h6, h5, zz, slCells]
        (repeat refine And.intro (by omega) ?_)
        refine ⟨.inr (.inr (o3.sc.le _)), ?_⟩
        have o3t := o3.tmp ⟨2, true, [.int .i64 i]⟩
        have rT : (H2.push ⟨2, true, [.int .i64 i]⟩).row H2.next = some ⟨2, true, [.int .i64 i]⟩ := by rw [AH.push_row, if_pos rfl]
        have nT : (H2.push ⟨2, true, [.int .i64 i]⟩).next = H2.next + 1 := rfl
        revert o3t rT nT
        generalize H2.push ⟨2, true, [.int .i64 i]⟩ = H3
        intro o3t rT nT
        try simp (disch := first | omega | (simp only [ints_length, List.length_replicate, List.length_set]; done) | (simp only [ints_length, List.length_replicate, List.length_set]; omega)) only [Sall,evalOp,init,binE,binI,unE,convE,okNil,builtE,gv,TD.isAgg,resV,↓reduceIte,Nat.reduceEqDiff,reduceCtorEq,Nat.reduceAdd,Nat.reduceMul,Nat.reduceLeDiff,quietOp,blindOp,Int.reduceEq,Int.reduceLT,Int.reduceLE,Nat.reduceLT,ti2,ti3,ti4,ti45,ti46,ti38,ti25,ti30,ti22,ti32,ti24,ti95,ti172,ti169,ti165,ti166,ti65,ti143,ti87,ti110,ti56,ti101,ti5,ti159,ti62,ti161,ti51,ti57,ti9, awpT_nil, awpT_one, awpT_run_nil, awpT_run_cons, h6, h5]
        have rU3' := (o3t.getV 0 rfl).2.2
        refine (l01Own_c _ (l.take a) H3 (cp_pre rU3' (by omega)) (by omega)).sc.mono ?_
        rintro w H4 ⟨⟨up4, hf4⟩, sc4⟩
        have o4 := o3t.call (Ow.of_fr up4 sc4 hf4)
        rw [hla] at o4
        have rT4 : H4.row H2.next = some ⟨2, true, [.int .i64 i]⟩ := by rw [up4.row _ (by omega)]; exact rT
        refine ⟨.inr (.inr (up4.le o3t.sc)), ?_⟩
        try simp (disch := first | omega | (simp only [ints_length, List.length_replicate, List.length_set]; done) | (simp only [ints_length, List.length_replicate, List.length_set]; omega)) only [Sall,evalOp,init,binE,binI,unE,convE,okNil,builtE,gv,TD.isAgg,resV,↓reduceIte,Nat.reduceEqDiff,reduceCtorEq,Nat.reduceAdd,Nat.reduceMul,Nat.reduceLeDiff,quietOp,blindOp,Int.reduceEq,Int.reduceLT,Int.reduceLE,Nat.reduceLT,ti2,ti3,ti4,ti45,ti46,ti38,ti25,ti30,ti22,ti32,ti24,ti95,ti172,ti169,ti165,ti166,ti65,ti143,ti87,ti110,ti56,ti101,ti5,ti159,ti62,ti161,ti51,ti57,ti9, awpT_nil, awpT_one, awpT_run_nil, awpT_run_cons, h6, h5, zz, slCells, rT4]
        (repeat refine And.intro (by omega) ?_)
        refine o4.app 1 (ms := ints [(i : Int)]) rfl rfl (by omega) rfl (by omega) (by decide) (by omega) ?_
        intro v6 H6 n6 o6
        rw [ints_append] at o6
        refine ⟨.inr (.inl (by kernel_rfl)), ?_⟩
        try simp (disch := first | omega | (simp only [ints_length, List.length_replicate, List.length_set]; done) | (simp only [ints_length, List.length_replicate, List.length_set]; omega)) only [Sall,evalOp,init,binE,binI,unE,convE,okNil,builtE,gv,TD.isAgg,resV,↓reduceIte,Nat.reduceEqDiff,reduceCtorEq,Nat.reduceAdd,Nat.reduceMul,Nat.reduceLeDiff,quietOp,blindOp,Int.reduceEq,Int.reduceLT,Int.reduceLE,Nat.reduceLT,ti2,ti3,ti4,ti45,ti46,ti38,ti25,ti30,ti22,ti32,ti24,ti95,ti172,ti169,ti165,ti166,ti65,ti143,ti87,ti110,ti56,ti101,ti5,ti159,ti62,ti161,ti51,ti57,ti9, awpT_nil, awpT_one, awpT_run_nil, awpT_run_cons, h6, h5]
        have rU := (o6.getV 0 rfl).2.2
        try simp (disch := first | omega | (simp only [ints_length, List.length_replicate, List.length_set]; done) | (simp only [ints_length, List.length_replicate, List.length_set]; omega)) only [Sall,evalOp,init,binE,binI,unE,convE,okNil,builtE,gv,TD.isAgg,resV,↓reduceIte,Nat.reduceEqDiff,reduceCtorEq,Nat.reduceAdd,Nat.reduceMul,Nat.reduceLeDiff,quietOp,blindOp,Int.reduceEq,Int.reduceLT,Int.reduceLE,Nat.reduceLT,ti2,ti3,ti4,ti45,ti46,ti38,ti25,ti30,ti22,ti32,ti24,ti95,ti172,ti169,ti165,ti166,ti65,ti143,ti87,ti110,ti56,ti101,ti5,ti159,ti62,ti161,ti51,ti57,ti9, awpT_nil, awpT_one, awpT_run_nil, awpT_run_cons, h6, h5, slCells, rU, hsg, hl, ints_length]
        (repeat refine And.intro (by omega) ?_)
        by_cases hd : a < i
        · refine o6.app 1 (vs := ints (l.take a ++ [(i : Int)])) (n := a + 1) (c := i - a) (ms := ints (l.drop a)) rfl rfl (by omega) (by rw [ints_length, List.length_drop]; omega) (by omega) (by decide) (by omega) ?_
          intro v7 H7 n7 o7
          rw [show a + 1 + (i - a) = i + 1 by omega, ints_append] at o7
          have o8 : Ow B2 H7 [.sl 1 2 (.slice (some ⟨ui, 0, some 1⟩) i i) i (ints l), .sl 1 2 v7 (i + 1) (ints (l.take a ++ [(i : Int)] ++ l.drop a))] := o7
          obtain ⟨u7, q1, q2, rfl, q4⟩ := o8.get 1 rfl (by omega)
          try simp (disch := first | omega | (simp only [ints_length, List.length_replicate, List.length_set]; done) | (simp only [ints_length, List.length_replicate, List.length_set]; omega)) only [Sall,evalOp,init,binE,binI,unE,convE,okNil,builtE,gv,TD.isAgg,resV,↓reduceIte,Nat.reduceEqDiff,reduceCtorEq,Nat.reduceAdd,Nat.reduceMul,Nat.reduceLeDiff,quietOp,blindOp,Int.reduceEq,Int.reduceLT,Int.reduceLE,Nat.reduceLT,ti2,ti3,ti4,ti45,ti46,ti38,ti25,ti30,ti22,ti32,ti24,ti95,ti172,ti169,ti165,ti166,ti65,ti143,ti87,ti110,ti56,ti101,ti5,ti159,ti62,ti161,ti51,ti57,ti9, awpT_nil, awpT_one, awpT_run_nil, awpT_run_cons, h6, h5, h0, h1, w64]
          exact ⟨.inr (.inl (by kernel_rfl)), n.toNat - (i + 1), by omega, i + 1, u7, _, B2, rfl, by omega, by omega, rfl, hB2, fin7 _ _ _ _ o8, hm6⟩
        · have hai2 : a = i := by omega
          subst hai2
          have o8 : Ow B2 H6 [.sl 1 2 (.slice (some ⟨ui, 0, some 1⟩) a a) a (ints l), .sl 1 2 v6 (a + 1) (ints (l.take a ++ [(a : Int)]))] := o6
          obtain ⟨u7, q1, q2, rfl, q4⟩ := o8.get 1 rfl (by omega)
          rw [Nat.sub_self]
          refine appE_zero ?_
          have hd0 : l.drop a = [] := List.drop_eq_nil_of_le (by omega)
          rw [hd0, List.append_nil] at hm6
          try simp (disch := first | omega | (simp only [ints_length, List.length_replicate, List.length_set]; done) | (simp only [ints_length, List.length_replicate, List.length_set]; omega)) only [Sall,evalOp,init,binE,binI,unE,convE,okNil,builtE,gv,TD.isAgg,resV,↓reduceIte,Nat.reduceEqDiff,reduceCtorEq,Nat.reduceAdd,Nat.reduceMul,Nat.reduceLeDiff,quietOp,blindOp,Int.reduceEq,Int.reduceLT,Int.reduceLE,Nat.reduceLT,ti2,ti3,ti4,ti45,ti46,ti38,ti25,ti30,ti22,ti32,ti24,ti95,ti172,ti169,ti165,ti166,ti65,ti143,ti87,ti110,ti56,ti101,ti5,ti159,ti62,ti161,ti51,ti57,ti9, awpT_nil, awpT_one, awpT_run_nil, awpT_run_cons, h6, h5, h0, h1, w64]
          exact ⟨.inr (.inl (by kernel_rfl)), n.toNat - (a + 1), by omega, a + 1, u7, _, B2, rfl, by omega, by omega, rfl, hB2, fin7 _ _ _ _ o8, hm6⟩
    · have hie : i = n.toNat := by omega
      subst hie
      try simp (disch := first | omega | (simp only [ints_length, List.length_replicate, List.length_set]; done) | (simp only [ints_length, List.length_replicate, List.length_set]; omega)) only [Sall,evalOp,init,binE,binI,unE,convE,okNil,builtE,gv,TD.isAgg,resV,↓reduceIte,Nat.reduceEqDiff,reduceCtorEq,Nat.reduceAdd,Nat.reduceMul,Nat.reduceLeDiff,quietOp,blindOp,Int.reduceEq,Int.reduceLT,Int.reduceLE,Nat.reduceLT,ti2,ti3,ti4,ti45,ti46,ti38,ti25,ti30,ti22,ti32,ti24,ti95,ti172,ti169,ti165,ti166,ti65,ti143,ti87,ti110,ti56,ti101,ti5,ti159,ti62,ti161,ti51,ti57,ti9, h5]
      exact ⟨l, B, hB, o2, hp⟩
end Go.Proofs.Ytgkmdfjjlghecaa.A
end

section
set_option linter.unusedSimpArgs false
set_option linter.unusedVariables false
namespace Go.Abs
/-- The pairs of the first k teams. -/
def pairsL (r : List Int) (k : Nat) : List (List Int) := ((List.range k).filter fun (a : Nat) => decide ((a : Int) < r.getD a 0)).map fun (a : Nat) => [(a : Int), r.getD a 0]
theorem pairsL_zero (r : List Int) : pairsL r 0 = [] := rfl
theorem pairsL_yes (r : List Int) (k : Nat) (h : (k : Int) < r.getD k 0) : pairsL r (k + 1) = pairsL r k ++ [[(k : Int), r.getD k 0]] := by
  unfold pairsL; rw [List.range_succ, List.filter_append, List.map_append]; simp [-List.getD_eq_getElem?_getD, h]
theorem pairsL_no (r : List Int) (k : Nat) (h : ¬ (k : Int) < r.getD k 0) : pairsL r (k + 1) = pairsL r k := by
  unfold pairsL; rw [List.range_succ, List.filter_append, List.map_append]; simp [-List.getD_eq_getElem?_getD, h]
theorem pairsL_le (r : List Int) (k : Nat) : (pairsL r k).length ≤ k := by
  unfold pairsL; rw [List.length_map]; exact Nat.le_trans (List.length_filter_le _ _) (by simp)

/-- One round's results are right. -/
def resAt (n : Nat) (r : List Int) (x : List Int) : Bool := (x.length == (pairsL r n).length) && (List.range x.length).all fun j => decide (0 ≤ x.getD j 0 ∧ x.getD j 0 ≤ 2)
def resB (n k : Nat) (l : List Int) (ll : List (List Int)) : Bool := decide (ll.length ≤ k) && (List.range ll.length).all fun i => resAt n (rnd l i) (ll.getD i [])
theorem resB_bad {n k : Nat} {l : List Int} {ll : List (List Int)} {i : Nat} (hi : i < ll.length) (h : resAt n (rnd l i) (ll.getD i []) = false) : resB n k l ll = false := by
  unfold resB; rw [all_false_of (p := fun i => resAt n (rnd l i) (ll.getD i [])) hi h, Bool.and_false]
theorem resB_good {n k : Nat} {l : List Int} {ll : List (List Int)} (hk : ll.length ≤ k) (h : ∀ i, i < ll.length → resAt n (rnd l i) (ll.getD i []) = true) : resB n k l ll = true := by
  unfold resB; rw [all_true_of (p := fun i => resAt n (rnd l i) (ll.getD i [])) h, Bool.and_true]; simpa using hk
theorem resAt_any (n : Nat) (r x : List Int) : resAt n r x = ((x.length == (pairsL r n).length) && !((List.range x.length).any fun j => !decide (0 ≤ x.getD j 0 ∧ x.getD j 0 ≤ 2))) := by
  unfold resAt; congr 1; rw [List.not_any_eq_all_not]; simp only [Bool.not_not]
end Go.Abs
end

section
set_option linter.unusedSimpArgs false
set_option linter.unusedVariables false
namespace Go.Abs

/-- The points of the first team of a pair. -/
def wonI (v : Int) : Int := if v = 1 then 2 else if v = 2 then 0 else 1
/-- A meeting as one of its teams sees it: round, own number, the other one's, own points. -/
abbrev Ev := Nat × Int × Int × Int
def evPair (i : Nat) (p : List Int) (o : Int) : List Ev := [(i, p.getD 0 0, p.getD 1 0, o), (i, p.getD 1 0, p.getD 0 0, 2 - o)]
/-- The first k pairs of a round. -/
def evRound (n i : Nat) (r x : List Int) (k : Nat) : List Ev := (List.range k).flatMap fun j => evPair i ((pairsL r n).getD j []) (wonI (x.getD j 0))
theorem evRound_zero (n i : Nat) (r x : List Int) : evRound n i r x 0 = [] := rfl
theorem evRound_succ (n i : Nat) (r x : List Int) (k : Nat) : evRound n i r x (k + 1) = evRound n i r x k ++ evPair i ((pairsL r n).getD k []) (wonI (x.getD k 0)) := by
  simp [evRound, List.range_succ]
/-- The first m rounds. -/
def meets (n : Nat) (l : List Int) (ll : List (List Int)) (m : Nat) : List Ev := (List.range m).flatMap fun i => evRound n i (rnd l i) (ll.getD i []) (pairsL (rnd l i) n).length
theorem meets_zero (n : Nat) (l : List Int) (ll : List (List Int)) : meets n l ll 0 = [] := rfl
theorem meets_succ (n : Nat) (l : List Int) (ll : List (List Int)) (m : Nat) : meets n l ll (m + 1) = meets n l ll m ++ evRound n m (rnd l m) (ll.getD m []) (pairsL (rnd l m) n).length := by
  simp [meets, List.range_succ]

/-- A pair of a round that is right. -/
theorem pairsL_get (r : List Int) (n k : Nat) (h : k < (pairsL r n).length) : ∃ a : Nat, a < n ∧ (a : Int) < r.getD a 0 ∧ (pairsL r n).getD k [] = [(a : Int), r.getD a 0] := by
  unfold pairsL at h ⊢
  rw [List.length_map] at h
  have e : (List.map (fun (a : Nat) => [(a : Int), r.getD a 0]) ((List.range n).filter fun (a : Nat) => decide ((a : Int) < r.getD a 0))).getD k [] = [((((List.range n).filter fun (a : Nat) => decide ((a : Int) < r.getD a 0))[k] : Nat) : Int), r.getD (((List.range n).filter fun (a : Nat) => decide ((a : Int) < r.getD a 0))[k]) 0] := by
    rw [List.getD_eq_getElem?_getD, List.getElem?_map, List.getElem?_eq_getElem h]; rfl
  have hm := List.getElem_mem h
  generalize ((List.range n).filter fun (a : Nat) => decide ((a : Int) < r.getD a 0))[k] = a at e hm
  obtain ⟨h1, h2⟩ := List.mem_filter.1 hm
  exact ⟨a, by simpa using h1, of_decide_eq_true h2, e⟩
theorem roundB_at {n : Int} {r : List Int} (h : roundB n r = true) {a : Nat} (ha : (a : Int) < n) : (2 ≤ n ∧ n ≤ 14) ∧ 0 ≤ r.getD a 0 ∧ r.getD a 0 < n ∧ r.getD (r.getD a 0).toNat 0 = a := by
  unfold roundB at h
  rw [Bool.and_eq_true] at h
  have h1 := of_decide_eq_true h.1
  have h2 := (List.all_eq_true.1 h.2) a (by simp; omega)
  unfold okAt at h2
  rw [if_neg (by omega), Bool.and_eq_true] at h2
  have h3 := of_decide_eq_true h2.1
  exact ⟨h1, h3.1, by omega, by simpa using h2.2⟩
theorem schedB_at {n : Int} {k : Nat} {l : List Int} (h : schedB n k l = true) : (2 ≤ n ∧ n ≤ 14) ∧ k ≤ 40 ∧ ∀ i, i < k → roundB n (rnd l i) = true := by
  unfold schedB at h
  rw [Bool.and_eq_true, Bool.and_eq_true] at h
  exact ⟨of_decide_eq_true h.1.1, of_decide_eq_true h.1.2, fun i hi => (List.all_eq_true.1 h.2) i (by simpa using hi)⟩
theorem resB_at {n k : Nat} {l : List Int} {ll : List (List Int)} (h : resB n k l ll = true) : ll.length ≤ k ∧ ∀ i, i < ll.length → (ll.getD i []).length = (pairsL (rnd l i) n).length ∧ ∀ j, j < (ll.getD i []).length → 0 ≤ (ll.getD i []).getD j 0 ∧ (ll.getD i []).getD j 0 ≤ 2 := by
  unfold resB at h
  rw [Bool.and_eq_true] at h
  refine ⟨of_decide_eq_true h.1, fun i hi => ?_⟩
  have h2 := (List.all_eq_true.1 h.2) i (by simpa using hi)
  unfold resAt at h2
  rw [Bool.and_eq_true] at h2
  exact ⟨by simpa using h2.1, fun j hj => of_decide_eq_true ((List.all_eq_true.1 h2.2) j (by simpa using hj))⟩
theorem wonI_range (v : Int) : 0 ≤ wonI v ∧ wonI v ≤ 2 := by
  unfold wonI
  split
  · omega
  · split <;> omega

/-- To one number something is added. -/
def addAt (l : List Int) (a z : Int) : List Int := l.set a.toNat (IntKind.i64.wrap (l.getD a.toNat 0 + z))
theorem addAt_length (l : List Int) (a z : Int) : (addAt l a z).length = l.length := by simp [addAt]
def sumsF (n : Nat) (f : Int → Int → Int) (es : List Ev) : List Int := es.foldl (fun l e => addAt l e.2.1 (f e.2.2.1 e.2.2.2)) (List.replicate n 0)
theorem sumsF_nil (n : Nat) (f : Int → Int → Int) : sumsF n f [] = List.replicate n 0 := rfl
theorem sumsF_append (n : Nat) (f : Int → Int → Int) (es : List Ev) (e : Ev) : sumsF n f (es ++ [e]) = addAt (sumsF n f es) e.2.1 (f e.2.2.1 e.2.2.2) := by simp [sumsF]
theorem sumsF_length (n : Nat) (f : Int → Int → Int) (es : List Ev) : (sumsF n f es).length = n := by
  unfold sumsF
  have : ∀ (es : List Ev) (l : List Int), (es.foldl (fun l e => addAt l e.2.1 (f e.2.2.1 e.2.2.2)) l).length = l.length := by
    intro es
    induction es with
    | nil => intro l; rfl
    | cons e es ih => intro l; rw [List.foldl_cons, ih, addAt_length]
  rw [this, List.length_replicate]

theorem wrap_range (n : Int) : -9223372036854775808 ≤ IntKind.i64.wrap n ∧ IntKind.i64.wrap n ≤ 9223372036854775807 := by
  unfold IntKind.wrap
  simp only [IntKind.bits, IntKind.signed]
  simp only [Bool.true_and, decide_eq_true_eq, Nat.reduceSub, Int.reducePow]
  split
  · rename_i hh; have hh' : (9223372036854775808 : Int) ≤ n % 18446744073709551616 := of_decide_eq_true hh; omega
  · rename_i hh; have hh' : ¬ (9223372036854775808 : Int) ≤ n % 18446744073709551616 := fun k => hh (decide_eq_true k); omega
theorem set_range {l : List Int} {k : Nat} {z : Int} (hl : ∀ j, -9223372036854775808 ≤ l.getD j 0 ∧ l.getD j 0 ≤ 9223372036854775807) (hz : -9223372036854775808 ≤ z ∧ z ≤ 9223372036854775807) : ∀ j, -9223372036854775808 ≤ (l.set k z).getD j 0 ∧ (l.set k z).getD j 0 ≤ 9223372036854775807 := by
  intro j
  rw [List.getD_eq_getElem?_getD, List.getElem?_set]
  by_cases h : k = j
  · rw [if_pos h]
    split
    · simpa using hz
    · simp
  · rw [if_neg h, ← List.getD_eq_getElem?_getD]; exact hl j
theorem sumsF_range (n : Nat) (f : Int → Int → Int) (es : List Ev) : ∀ j, -9223372036854775808 ≤ (sumsF n f es).getD j 0 ∧ (sumsF n f es).getD j 0 ≤ 9223372036854775807 := by
  unfold sumsF
  have : ∀ (es : List Ev) (l : List Int), (∀ j, -9223372036854775808 ≤ l.getD j 0 ∧ l.getD j 0 ≤ 9223372036854775807) → ∀ j, -9223372036854775808 ≤ (es.foldl (fun l e => addAt l e.2.1 (f e.2.2.1 e.2.2.2)) l).getD j 0 ∧ (es.foldl (fun l e => addAt l e.2.1 (f e.2.2.1 e.2.2.2)) l).getD j 0 ≤ 9223372036854775807 := by
    intro es
    induction es with
    | nil => intro l h; exact h
    | cons e es ih => intro l h; rw [List.foldl_cons]; exact ih _ (set_range h (wrap_range _))
  refine this es _ fun j => ?_
  rw [List.getD_eq_getElem?_getD, List.getElem?_replicate]
  split <;> simp
theorem sumsF_congr {n : Nat} {f g : Int → Int → Int} (h : ∀ a b, f a b = g a b) (es : List Ev) : sumsF n f es = sumsF n g es := by
  have : f = g := by funext a b; exact h a b
  rw [this]
end Go.Abs
end

section
set_option linter.unusedSimpArgs false
set_option linter.unusedVariables false
namespace Go.Abs

def zeroM (n : Nat) : List (List Int) := List.replicate n (List.replicate n 0)
def incR (row : List Int) (b : Int) : List Int := row.set b.toNat (IntKind.i64.wrap (row.getD b.toNat 0 + 1))
theorem incR_length (row : List Int) (b : Int) : (incR row b).length = row.length := by simp [incR]
def incM (M : List (List Int)) (a b : Int) : List (List Int) := M.set a.toNat (incR (M.getD a.toNat []) b)
def SqM (n : Nat) (M : List (List Int)) : Prop := M.length = n ∧ ∀ j, j < n → (M.getD j []).length = n
theorem zeroM_sq (n : Nat) : SqM n (zeroM n) := ⟨by simp [zeroM], fun j hj => by simp [zeroM, List.getD_eq_getElem?_getD, List.getElem?_replicate, hj]⟩
theorem SqM.inc {n : Nat} {M : List (List Int)} (h : SqM n M) {a b : Int} (ha : a.toNat < n) : SqM n (incM M a b) := by
  refine ⟨by simp [incM, h.1], fun j hj => ?_⟩
  unfold incM
  by_cases e : j = a.toNat
  · subst e
    rw [List.getD_eq_getElem?_getD, List.getElem?_set_self (by rw [h.1]; exact ha)]
    show (incR _ b).length = n
    rw [incR_length, h.2 _ ha]
  · rw [List.getD_eq_getElem?_getD, List.getElem?_set_ne (by omega), ← List.getD_eq_getElem?_getD, h.2 _ hj]
theorem SqM.mem {n : Nat} {M : List (List Int)} (h : SqM n M) : ∀ y ∈ M, y.length = n := by
  intro y hy
  obtain ⟨j, hj, rfl⟩ := List.mem_iff_getElem.1 hy
  have := h.2 j (by rw [← h.1]; exact hj)
  rw [List.getD_eq_getElem?_getD, List.getElem?_eq_getElem hj] at this
  exact this
theorem SqM.tot {n : Nat} {M : List (List Int)} (h : SqM n M) : Abs.tot M = n * n := by
  have h1 := h.1
  have h2 := h.mem
  clear h
  have : ∀ (M : List (List Int)), (∀ y ∈ M, y.length = n) → Abs.tot M = M.length * n := by
    intro M
    induction M with
    | nil => intro _; simp [Abs.tot]
    | cons x M ih =>
      intro h
      have e : Abs.tot (x :: M) = x.length + Abs.tot M := by simp [Abs.tot]
      rw [e, ih fun y hy => h y (List.mem_cons_of_mem _ hy), h x List.mem_cons_self, List.length_cons, Nat.succ_mul, Nat.add_comm]
  rw [this M h2, h1]

theorem foldl_range_succ {α : Type} (f : α → Nat → α) (s : α) (n : Nat) : (List.range (n + 1)).foldl f s = f ((List.range n).foldl f s) n := by
  rw [List.range_succ, List.foldl_append]; rfl

/-! How often teams meet. -/
def rowStep (l : List Int) (a : Nat) (row : List Int) (i : Nat) : List Int := if (rnd l i).getD a 0 = a then row else incR row ((rnd l i).getD a 0)
def rowM (n : Nat) (l : List Int) (a i : Nat) : List Int := (List.range i).foldl (rowStep l a) (List.replicate n 0)
theorem rowM_zero (n : Nat) (l : List Int) (a : Nat) : rowM n l a 0 = List.replicate n 0 := rfl
theorem rowM_succ (n : Nat) (l : List Int) (a i : Nat) : rowM n l a (i + 1) = rowStep l a (rowM n l a i) i := foldl_range_succ _ _ _
theorem rowM_length (n : Nat) (l : List Int) (a i : Nat) : (rowM n l a i).length = n := by
  induction i with
  | zero => simp [rowM]
  | succ i ih => rw [rowM_succ]; unfold rowStep; split <;> simp [incR_length, ih]
/-- The matrix while round i is looked at, teams below c having been looked at. -/
def midM (n : Nat) (l : List Int) (i c : Nat) : List (List Int) := (List.range n).map fun a => rowM n l a (if a < c then i + 1 else i)
def meetM (n : Nat) (l : List Int) (k : Nat) : List (List Int) := (List.range n).map fun a => rowM n l a k
theorem midM_zero (n : Nat) (l : List Int) (i : Nat) : midM n l i 0 = meetM n l i := by
  unfold midM meetM; apply List.map_congr_left; intro a _; rw [if_neg (by omega)]
theorem midM_all (n : Nat) (l : List Int) (i : Nat) : midM n l i n = meetM n l (i + 1) := by
  unfold midM meetM; apply List.map_congr_left; intro a ha; rw [if_pos (by simpa using ha)]
theorem meetM_zero (n : Nat) (l : List Int) : meetM n l 0 = zeroM n := by
  unfold meetM zeroM
  exact List.eq_replicate_iff.2 ⟨by simp, by intro b hb; obtain ⟨a, _, rfl⟩ := List.mem_map.1 hb; rfl⟩
theorem midM_sq (n : Nat) (l : List Int) (i c : Nat) : SqM n (midM n l i c) := ⟨by simp [midM], fun j hj => by simp [midM, List.getD_eq_getElem?_getD, hj, rowM_length]⟩
theorem meetM_sq (n : Nat) (l : List Int) (k : Nat) : SqM n (meetM n l k) := by rw [← midM_zero]; exact midM_sq _ _ _ _
theorem midM_getD (n : Nat) (l : List Int) (i c a : Nat) (h : a < n) : (midM n l i c).getD a [] = rowM n l a (if a < c then i + 1 else i) := by simp [midM, List.getD_eq_getElem?_getD, h]
theorem midM_same {n : Nat} {l : List Int} {i c : Nat} (hc : c < n) (h : (rnd l i).getD c 0 = c) : midM n l i (c + 1) = midM n l i c := by
  unfold midM
  apply List.map_congr_left
  intro a _
  by_cases e : a = c
  · subst e
    rw [if_pos (by omega), if_neg (by omega), rowM_succ]
    unfold rowStep
    rw [if_pos h]
  · by_cases e2 : a < c
    · rw [if_pos (by omega), if_pos e2]
    · rw [if_neg (by omega), if_neg e2]
theorem midM_inc {n : Nat} {l : List Int} {i c : Nat} (hc : c < n) (h : ¬ (rnd l i).getD c 0 = c) : midM n l i (c + 1) = incM (midM n l i c) c ((rnd l i).getD c 0) := by
  unfold incM
  rw [Int.toNat_natCast, midM_getD _ _ _ _ _ hc, if_neg (by omega)]
  apply List.ext_getElem?
  intro j
  rw [List.getElem?_set]
  by_cases e : c = j
  · subst e
    rw [if_pos rfl, if_pos (by rw [(midM_sq n l i c).1]; exact hc)]
    unfold midM
    rw [List.getElem?_map, List.getElem?_range hc]
    simp only [Option.map_some]
    rw [if_pos (by omega), rowM_succ]
    unfold rowStep
    rw [if_neg h]
  · rw [if_neg e]
    unfold midM
    rw [List.getElem?_map, List.getElem?_map]
    by_cases hj : j < n
    · rw [List.getElem?_range hj]
      simp only [Option.map_some]
      by_cases e2 : j < c
      · rw [if_pos (by omega), if_pos e2]
      · rw [if_neg (by omega), if_neg e2]
    · rw [List.getElem?_eq_none (by simpa using hj)]; rfl

/-! The carry over matrix. -/
def carT (n k : Nat) (l : List Int) (i t : Nat) (M : List (List Int)) : List (List Int) := (List.range t).foldl (fun M x => incM M ((rnd l i).getD x 0) ((rnd l ((i + 1) % k)).getD x 0)) M
def carM (n k : Nat) (l : List Int) (i : Nat) : List (List Int) := (List.range i).foldl (fun M i => carT n k l i n M) (zeroM n)
theorem carT_zero (n k : Nat) (l : List Int) (i : Nat) (M : List (List Int)) : carT n k l i 0 M = M := rfl
theorem carT_succ (n k : Nat) (l : List Int) (i t : Nat) (M : List (List Int)) : carT n k l i (t + 1) M = incM (carT n k l i t M) ((rnd l i).getD t 0) ((rnd l ((i + 1) % k)).getD t 0) := foldl_range_succ _ _ _
theorem carM_zero (n k : Nat) (l : List Int) : carM n k l 0 = zeroM n := rfl
theorem carM_succ (n k : Nat) (l : List Int) (i : Nat) : carM n k l (i + 1) = carT n k l i n (carM n k l i) := foldl_range_succ _ _ _
theorem carT_sq {n k : Nat} {l : List Int} {i : Nat} {M : List (List Int)} (h : SqM n M) (hr : ∀ x, x < n → ((rnd l i).getD x 0).toNat < n) : ∀ t, t ≤ n → SqM n (carT n k l i t M)
  | 0, _ => h
  | t + 1, ht => by rw [carT_succ]; exact (carT_sq h hr t (by omega)).inc (hr t (by omega))
theorem carM_sq {n k : Nat} {l : List Int} (hr : ∀ i, i < k → ∀ x, x < n → ((rnd l i).getD x 0).toNat < n) : ∀ i, i ≤ k → SqM n (carM n k l i)
  | 0, _ => zeroM_sq n
  | i + 1, hi => by rw [carM_succ]; exact carT_sq (carM_sq hr i (by omega)) (hr i (by omega)) n (Nat.le_refl _)

/-! Cost and balance. -/
def sqStep (s x : Int) : Int := IntKind.i64.wrap (s + IntKind.i64.wrap (x * x))
def costR (row : List Int) (s : Int) (j : Nat) : Int := (List.range j).foldl (fun s j => sqStep s (row.getD j 0)) s
def costM (M : List (List Int)) (i : Nat) : Int := (List.range i).foldl (fun s i => costR (M.getD i []) s (M.getD i []).length) 0
theorem costR_zero (row : List Int) (s : Int) : costR row s 0 = s := rfl
theorem costR_succ (row : List Int) (s : Int) (j : Nat) : costR row s (j + 1) = sqStep (costR row s j) (row.getD j 0) := foldl_range_succ _ _ _
theorem costM_zero (M : List (List Int)) : costM M 0 = 0 := rfl
theorem costM_succ (M : List (List Int)) (i : Nat) : costM M (i + 1) = costR (M.getD i []) (costM M i) (M.getD i []).length := foldl_range_succ _ _ _

/-- Off the diagonal all numbers are 1. -/
def balAt (M : List (List Int)) (i j : Nat) : Bool := decide (i = j) || (M.getD i []).getD j 0 == 1
def balB (M : List (List Int)) : Bool := (List.range M.length).all fun i => (List.range (M.getD i []).length).all fun j => balAt M i j
theorem balB_bad {M : List (List Int)} {i j : Nat} (hi : i < M.length) (hj : j < (M.getD i []).length) (h : balAt M i j = false) : balB M = false := by
  unfold balB
  exact all_false_of hi (all_false_of hj h)
theorem balB_good {M : List (List Int)} (h : ∀ i, i < M.length → ∀ j, j < (M.getD i []).length → balAt M i j = true) : balB M = true := by
  unfold balB
  exact all_true_of fun i hi => all_true_of fun j hj => h i hi j hj
/-- Is it a round robin? -/
def robinB (n k : Nat) (l : List Int) : Bool := decide (k = n - 1 + n % 2) && balB (meetM n l k)
/-- The code of what has to be a round robin of an even number of teams. -/
def codeC (q : Int) (k : Nat) (l : List Int) : Int := if schedB q k l = true then (if (decide (q.toNat % 2 = 1) || !robinB q.toNat k l) = true then 5 else 0) else 1
theorem rnd_toNat {n k : Nat} {l : List Int} (hb : schedB n k l = true) : ∀ i, i < k → ∀ x, x < n → ((rnd l i).getD x 0).toNat < n := by
  intro i hi x hx
  have h := (roundB_at ((schedB_at hb).2.2 i hi) (a := x) (by omega)).2
  omega
end Go.Abs
end

section
set_option linter.unusedSimpArgs false
set_option linter.unusedVariables false
set_option maxRecDepth 100000
set_option maxHeartbeats 2000000
namespace Go.Proofs.Ytgkmdfjjlghecaa.A
open Go Go.Abs Go.RowKit

theorem zeros_int0 (n : Nat) : zeros n [.int .i64 0] = ints (List.replicate n 0) := by
  have h := zeros_ints n 1
  rw [Nat.mul_one] at h; exact h
theorem replicate_snoc {α : Type} (n : Nat) (a : α) : List.replicate (n + 1) a = List.replicate n a ++ [a] := by
  rw [List.replicate_succ']

theorem square_c (n : Nat) (hn : n ≤ 1024) (H : AH) : ACalls Try.prog 100 [.int .i64 n] H (fun v H' => Up H.next H H' ∧ Fr2 1 38 2 H.next H'.next H' v (zeroM n)) := by
  refine acalls_of_awp [.tmp 2] Try.func100 (by kernel_rfl) rfl rfl (Nat.le_of_ble_eq_true rfl) (by kernel_rfl) ?_
  try simp (disch := first | omega | (simp only [ints_length, List.length_replicate, List.length_set]; done) | (simp only [ints_length, List.length_replicate, List.length_set]; omega)) only [Sall,evalOp,init,binE,binI,unE,convE,okNil,builtE,gv,TD.isAgg,resV,↓reduceIte,Nat.reduceEqDiff,reduceCtorEq,Nat.reduceAdd,Nat.reduceMul,Nat.reduceLeDiff,quietOp,blindOp,Int.reduceEq,Int.reduceLT,Int.reduceLE,Nat.reduceLT,ti2,ti3,ti4,ti45,ti46,ti38,ti25,ti30,ti22,ti32,ti24,ti95,ti172,ti169,ti165,ti166,ti65,ti143,ti87, zeros_zero]
  refine awp_loop (fun m t H' => ∃ (a : Nat) (u : Value) (lo hi : Nat), m = n - a ∧ a ≤ n ∧ t 6 = .int .i64 a ∧ t 5 = .int .i64 n ∧ t 0 = .int .i64 n ∧ t 3 = u ∧ Up H.next H H' ∧ H.next ≤ lo ∧ lo ≤ hi ∧ hi ≤ H'.next ∧ Fr2 1 38 2 lo hi H' u (List.replicate a (List.replicate n 0))) n ?_ ?_
  · refine ⟨0, .slice (some ⟨H.next, 0, some 1⟩) 0 0, H.next, H.next + 1, by omega, by omega, ?_⟩
    try simp (disch := first | omega | (simp only [ints_length, List.length_replicate, List.length_set]; done) | (simp only [ints_length, List.length_replicate, List.length_set]; omega)) only [Sall,evalOp,init,binE,binI,unE,convE,okNil,builtE,gv,TD.isAgg,resV,↓reduceIte,Nat.reduceEqDiff,reduceCtorEq,Nat.reduceAdd,Nat.reduceMul,Nat.reduceLeDiff,quietOp,blindOp,Int.reduceEq,Int.reduceLT,Int.reduceLE,Nat.reduceLT,ti2,ti3,ti4,ti45,ti46,ti38,ti25,ti30,ti22,ti32,ti24,ti95,ti172,ti169,ti165,ti166,ti65,ti143,ti87, Int.natCast_zero]
    refine ⟨(Up.refl _ H).push (by omega) _, ?_⟩
    (repeat refine And.intro (by omega) ?_)
    exact .inr ⟨H.next, [], fun _ => H.next + 1, by omega, by omega, rfl, by rw [AH.push_row, if_pos rfl], rfl, by dsimp only; omega, by dsimp only; omega, .inl (by dsimp only; omega), fun _ => Nat.le_refl _, fun j hj => by simp at hj⟩
  · rintro m t H' ⟨a, u, lo, hi, hm, h14, h6, h5, h0, h3, hup, hlo, hlh, hhi, hfr⟩
    try simp (disch := first | omega | (simp only [ints_length, List.length_replicate, List.length_set]; done) | (simp only [ints_length, List.length_replicate, List.length_set]; omega)) only [Sall,evalOp,init,binE,binI,unE,convE,okNil,builtE,gv,TD.isAgg,resV,↓reduceIte,Nat.reduceEqDiff,reduceCtorEq,Nat.reduceAdd,Nat.reduceMul,Nat.reduceLeDiff,quietOp,blindOp,Int.reduceEq,Int.reduceLT,Int.reduceLE,Nat.reduceLT,ti2,ti3,ti4,ti45,ti46,ti38,ti25,ti30,ti22,ti32,ti24,ti95,ti172,ti169,ti165,ti166,ti65,ti143,ti87, h6, h5]
    refine condC_dec (fun h => ?_) (fun h => ?_)
    · have zz : zeros 1 [.slice none 0 0] = [.slice none 0 0] := rfl
      have ne1 : ¬ H'.next = H'.next + 1 := by omega
      try simp (disch := first | omega | (simp only [ints_length, List.length_replicate, List.length_set]; done) | (simp only [ints_length, List.length_replicate, List.length_set]; omega)) only [Sall,evalOp,init,binE,binI,unE,convE,okNil,builtE,gv,TD.isAgg,resV,↓reduceIte,Nat.reduceEqDiff,reduceCtorEq,Nat.reduceAdd,Nat.reduceMul,Nat.reduceLeDiff,quietOp,blindOp,Int.reduceEq,Int.reduceLT,Int.reduceLE,Nat.reduceLT,ti2,ti3,ti4,ti45,ti46,ti38,ti25,ti30,ti22,ti32,ti24,ti95,ti172,ti169,ti165,ti166,ti65,ti143,ti87, h6, h5, h3, h0, zeros_int0, zz, slCells]
      (repeat refine And.intro (by omega) ?_)
      obtain ⟨H2, e2⟩ : ∃ H2, H2 = (H'.push ⟨2, true, ints (List.replicate n 0)⟩).push ⟨38, true, [.slice (some ⟨H'.next, 0, some 1⟩) n n]⟩ := ⟨_, rfl⟩
      have n2 : H2.next = H'.next + 2 := by rw [e2]; rfl
      have s2 : ∀ i, i < H'.next → H2.row i = H'.row i := fun i hi => by rw [e2, AH.push_row, if_neg (by rw [AH.push_next]; omega), AH.push_row, if_neg (by omega)]
      have x2 : H2.row H'.next = some ⟨2, true, ints (List.replicate n 0)⟩ := by rw [e2, AH.push_row, if_neg (by rw [AH.push_next]; omega), AH.push_row, if_pos rfl]
      rw [← e2]
      clear e2
      refine appE_fr2 (hfr.same fun i _ hi => s2 i (by omega)) (m := n) (l := List.replicate n 0) ⟨by simp, .inr ⟨H'.next, by omega, by omega, rfl, x2⟩⟩ rfl (by decide) (by rw [List.length_replicate]; omega) hlh (by omega) ?_
      intro v' H3 n3 s3 f3
      try simp (disch := first | omega | (simp only [ints_length, List.length_replicate, List.length_set]; done) | (simp only [ints_length, List.length_replicate, List.length_set]; omega)) only [Sall,evalOp,init,binE,binI,unE,convE,okNil,builtE,gv,TD.isAgg,resV,↓reduceIte,Nat.reduceEqDiff,reduceCtorEq,Nat.reduceAdd,Nat.reduceMul,Nat.reduceLeDiff,quietOp,blindOp,Int.reduceEq,Int.reduceLT,Int.reduceLE,Nat.reduceLT,ti2,ti3,ti4,ti45,ti46,ti38,ti25,ti30,ti22,ti32,ti24,ti95,ti172,ti169,ti165,ti166,ti65,ti143,ti87, h6, h5, h0, w64]
      refine ⟨n - (a + 1), by omega, a + 1, v', lo, H2.next + 1, rfl, by omega, rfl, rfl, ⟨by have := hup.next; omega, fun i hi => ?_⟩, by omega, by omega, by omega, ?_⟩
      · rw [s3 i (by have := hup.next; omega) (by have := hup.next; omega), s2 i (by have := hup.next; omega), hup.row i hi]
      · rw [replicate_snoc]; exact f3
    · have ha : a = n := by omega
      subst ha
      try simp (disch := first | omega | (simp only [ints_length, List.length_replicate, List.length_set]; done) | (simp only [ints_length, List.length_replicate, List.length_set]; omega)) only [Sall,evalOp,init,binE,binI,unE,convE,okNil,builtE,gv,TD.isAgg,resV,↓reduceIte,Nat.reduceEqDiff,reduceCtorEq,Nat.reduceAdd,Nat.reduceMul,Nat.reduceLeDiff,quietOp,blindOp,Int.reduceEq,Int.reduceLT,Int.reduceLE,Nat.reduceLT,ti2,ti3,ti4,ti45,ti46,ti38,ti25,ti30,ti22,ti32,ti24,ti95,ti172,ti169,ti165,ti166,ti65,ti143,ti87, h3]
      exact ⟨hup, hfr.wide hlo hhi⟩

theorem meetings_c (n : Nat) (v : Value) (k : Nat) (l : List Int) (H : AH) (hb : schedB n k l = true) (hv : Rd 14 H v k l) (hk : k ≤ 4294967296) :
    ACalls Try.prog 99 [.agg #[.int .i64 n, v]] H (fun u H' => Up H.next H H' ∧ Fr2 1 38 2 H.next H'.next H' u (meetM n l k)) := by
  refine ACalls.wf (by kernel_rfl) fun hs => acalls_of_awp [.tmp 2] Try.func99 (by kernel_rfl) rfl rfl (Nat.le_of_ble_eq_true rfl) (by kernel_rfl) ?_
  obtain ⟨hn, hk40, hrounds⟩ := schedB_at hb
  have hone := hv.one
  have up : Up H.next H (H.push ⟨32, true, [.int .i64 n, v]⟩) := (Up.refl _ H).push (Nat.le_refl _) _
  have e1 : (H.push ⟨32, true, [.int .i64 n, v]⟩).row H.next = some ⟨32, true, [.int .i64 n, v]⟩ := by rw [AH.push_row, if_pos rfl]
  have n1 : (H.push ⟨32, true, [.int .i64 n, v]⟩).next = H.next + 1 := rfl
  try simp (disch := first | omega | (simp only [ints_length, List.length_replicate, List.length_set]; done) | (simp only [ints_length, List.length_replicate, List.length_set]; omega)) only [Sall,evalOp,init,binE,binI,unE,convE,okNil,builtE,gv,TD.isAgg,resV,↓reduceIte,Nat.reduceEqDiff,reduceCtorEq,Nat.reduceAdd,Nat.reduceMul,Nat.reduceLeDiff,quietOp,blindOp,Int.reduceEq,Int.reduceLT,Int.reduceLE,Nat.reduceLT,ti2,ti3,ti4,ti45,ti46,ti38,ti25,ti30,ti22,ti32,ti24,ti95,ti172,ti169,ti165,ti166,ti65,ti143,ti87, hone]
  revert up e1 n1
  generalize H.push ⟨32, true, [.int .i64 n, v]⟩ = H1
  intro up e1 n1
  refine (square_c n (by omega) H1).mono ?_
  rintro u H2 ⟨up2, hf⟩
  have n2 := up2.next
  have u2 : Up H.next H H2 := up.trans up2 (by omega)
  have r2 : H2.row H.next = some ⟨32, true, [.int .i64 n, v]⟩ := by rw [up2.row _ (by omega), e1]
  refine Holds.mp ?_
  try simp (disch := first | omega | (simp only [ints_length, List.length_replicate, List.length_set]; done) | (simp only [ints_length, List.length_replicate, List.length_set]; omega)) only [Sall,evalOp,init,binE,binI,unE,convE,okNil,builtE,gv,TD.isAgg,resV,↓reduceIte,Nat.reduceEqDiff,reduceCtorEq,Nat.reduceAdd,Nat.reduceMul,Nat.reduceLeDiff,quietOp,blindOp,Int.reduceEq,Int.reduceLT,Int.reduceLE,Nat.reduceLT,ti2,ti3,ti4,ti45,ti46,ti38,ti25,ti30,ti22,ti32,ti24,ti95,ti172,ti169,ti165,ti166,ti65,ti143,ti87, r2, builtE, hv.len]
  refine awp_loop (fun m t H' => ∃ (a : Nat), m = k - a ∧ a ≤ k ∧ t 13 = .int .i64 a ∧ t 12 = .int .i64 k ∧ t 11 = v ∧ t 3 = u ∧ t 1 = .pointer (some ⟨H.next, 0, none⟩) ∧ Up H.next H H' ∧ H2.next ≤ H'.next ∧ H'.row H.next = some ⟨32, true, [.int .i64 n, v]⟩ ∧ Fr2 1 38 2 H1.next H2.next H' u (meetM n l a)) k ?_ ?_
  · refine ⟨0, by omega, by omega, ?_⟩
    try simp (disch := first | omega | (simp only [ints_length, List.length_replicate, List.length_set]; done) | (simp only [ints_length, List.length_replicate, List.length_set]; omega)) only [Sall,evalOp,init,binE,binI,unE,convE,okNil,builtE,gv,TD.isAgg,resV,↓reduceIte,Nat.reduceEqDiff,reduceCtorEq,Nat.reduceAdd,Nat.reduceMul,Nat.reduceLeDiff,quietOp,blindOp,Int.reduceEq,Int.reduceLT,Int.reduceLE,Nat.reduceLT,ti2,ti3,ti4,ti45,ti46,ti38,ti25,ti30,ti22,ti32,ti24,ti95,ti172,ti169,ti165,ti166,ti65,ti143,ti87, Int.natCast_zero, meetM_zero]
    exact ⟨u2, r2, hf⟩
  · rintro m t H' ⟨a, hm, h14, h13, h12, h11, h3, h1, hup, hnx, hr1, hf'⟩
    try simp (disch := first | omega | (simp only [ints_length, List.length_replicate, List.length_set]; done) | (simp only [ints_length, List.length_replicate, List.length_set]; omega)) only [Sall,evalOp,init,binE,binI,unE,convE,okNil,builtE,gv,TD.isAgg,resV,↓reduceIte,Nat.reduceEqDiff,reduceCtorEq,Nat.reduceAdd,Nat.reduceMul,Nat.reduceLeDiff,quietOp,blindOp,Int.reduceEq,Int.reduceLT,Int.reduceLE,Nat.reduceLT,ti2,ti3,ti4,ti45,ti46,ti38,ti25,ti30,ti22,ti32,ti24,ti95,ti172,ti169,ti165,ti166,ti65,ti143,ti87, h13, h12]
    refine condC_dec (fun h => ?_) (fun h => ?_)
    · obtain ⟨i', o', u', c', r', rfl, hrB', hc', hs', hg'⟩ := hv.get (by omega)
      have hr' : H'.row i' = some r' := by rw [hup.row _ (hs _ _ hrB'), hrB']
      have hrl : (rnd l a).length = 14 := rnd_length l a k hv.1 (by omega)
      have hiB := hs _ _ hrB'
      have hup1 := hup.next
      have ne1 : ¬ i' = H'.next := by omega
      have ne2 : ¬ H.next = H'.next := by omega
      have hrl2 : ((l.drop (a * 14)).take 14).length = 14 := hrl
      have hsp := splice_ints14 (List.replicate 14 0) (rnd l a) (by simp) hrl
      try simp (disch := first | omega | (simp only [ints_length, List.length_replicate, List.length_set]; done) | (simp only [ints_length, List.length_replicate, List.length_set]; omega)) only [Sall,evalOp,init,binE,binI,unE,convE,okNil,builtE,gv,TD.isAgg,resV,↓reduceIte,Nat.reduceEqDiff,reduceCtorEq,Nat.reduceAdd,Nat.reduceMul,Nat.reduceLeDiff,quietOp,blindOp,Int.reduceEq,Int.reduceLT,Int.reduceLE,Nat.reduceLT,ti2,ti3,ti4,ti45,ti46,ti38,ti25,ti30,ti22,ti32,ti24,ti95,ti172,ti169,ti165,ti166,ti65,ti143,ti87, h13, h11, hr', hg', push_setCells, hrl2, ints_length, ne1, ne2, hr1, h1]
      (repeat refine And.intro (by omega) ?_)
      obtain ⟨H3, e3⟩ : ∃ H3, H3 = H'.push ⟨46, true, ints ((l.drop (a * 14)).take 14)⟩ := ⟨_, rfl⟩
      have s3 : ∀ i, i < H'.next → H3.row i = H'.row i := fun i hi => by rw [e3, AH.push_row, if_neg (by omega)]
      have r3 : H3.row H'.next = some ⟨46, true, ints (rnd l a)⟩ := by rw [e3, AH.push_row, if_pos rfl]; rfl
      have n3 : H3.next = H'.next + 1 := by rw [e3]; rfl
      rw [← e3]
      clear e3
      have hround := hrounds a (by omega)
      refine awp_loop (fun z t H4 => ∃ c : Nat, z = n - c ∧ c ≤ n ∧ t 19 = .int .i64 c ∧ t 18 = .int .i64 n ∧ t 5 = .pointer (some ⟨H'.next, 0, none⟩) ∧ t 13 = .int .i64 a ∧ t 12 = .int .i64 k ∧ t 11 = .slice (some ⟨i', o', u'⟩) k c' ∧ t 3 = u ∧ t 1 = .pointer (some ⟨H.next, 0, none⟩) ∧ Up H.next H H4 ∧ H3.next ≤ H4.next ∧ H4.row H.next = some ⟨32, true, [.int .i64 n, .slice (some ⟨i', o', u'⟩) k c']⟩ ∧ H4.row H'.next = some ⟨46, true, ints (rnd l a)⟩ ∧ Fr2 1 38 2 H1.next H2.next H4 u (midM n l a c)) n ?_ ?_
      · refine ⟨0, by omega, by omega, ?_⟩
        try simp (disch := first | omega | (simp only [ints_length, List.length_replicate, List.length_set]; done) | (simp only [ints_length, List.length_replicate, List.length_set]; omega)) only [Sall,evalOp,init,binE,binI,unE,convE,okNil,builtE,gv,TD.isAgg,resV,↓reduceIte,Nat.reduceEqDiff,reduceCtorEq,Nat.reduceAdd,Nat.reduceMul,Nat.reduceLeDiff,quietOp,blindOp,Int.reduceEq,Int.reduceLT,Int.reduceLE,Nat.reduceLT,ti2,ti3,ti4,ti45,ti46,ti38,ti25,ti30,ti22,ti32,ti24,ti95,ti172,ti169,ti165,ti166,ti65,ti143,ti87, Int.natCast_zero, h13, h12, h11, h3, h1]
        refine ⟨⟨by omega, fun i hi => by rw [s3 i (by omega), hup.row i hi]⟩, by rw [s3 _ (by omega), hr1], r3, ?_⟩
        rw [midM_zero]
        exact hf'.same fun i _ hi => s3 i (by omega)
      · rintro z t H4 ⟨c, hz, hcn, h19, h18, h5, h13, h12, h11, h3, h1, hup4, hn4, hr4, hr5, hf4⟩
        try simp (disch := first | omega | (simp only [ints_length, List.length_replicate, List.length_set]; done) | (simp only [ints_length, List.length_replicate, List.length_set]; omega)) only [Sall,evalOp,init,binE,binI,unE,convE,okNil,builtE,gv,TD.isAgg,resV,↓reduceIte,Nat.reduceEqDiff,reduceCtorEq,Nat.reduceAdd,Nat.reduceMul,Nat.reduceLeDiff,quietOp,blindOp,Int.reduceEq,Int.reduceLT,Int.reduceLE,Nat.reduceLT,ti2,ti3,ti4,ti45,ti46,ti38,ti25,ti30,ti22,ti32,ti24,ti95,ti172,ti169,ti165,ti166,ti65,ti143,ti87, h19, h18]
        refine condC_dec (fun hh => ?_) (fun hh => ?_)
        · obtain ⟨_, ha4, ha5, _⟩ := roundB_at hround (a := c) (by omega)
          have hsq := midM_sq n l a c
          by_cases hne : (rnd l a).getD c 0 = (c : Int)
          · have e0 : ((rnd l a).getD c 0 != (c : Int)) = false := by rw [hne]; exact bne_self_eq_false _
            try simp (disch := first | omega | (simp only [ints_length, List.length_replicate, List.length_set]; done) | (simp only [ints_length, List.length_replicate, List.length_set]; omega)) only [Sall,evalOp,init,binE,binI,unE,convE,okNil,builtE,gv,TD.isAgg,resV,↓reduceIte,Nat.reduceEqDiff,reduceCtorEq,Nat.reduceAdd,Nat.reduceMul,Nat.reduceLeDiff,quietOp,blindOp,Int.reduceEq,Int.reduceLT,Int.reduceLE,Nat.reduceLT,ti2,ti3,ti4,ti45,ti46,ti38,ti25,ti30,ti22,ti32,ti24,ti95,ti172,ti169,ti165,ti166,ti65,ti143,ti87, h19, h5, hr5, ints_get?, e0, h18, h13, h12, h11, h3, h1, w64]
            (repeat refine And.intro (by omega) ?_)
            refine ⟨n - (c + 1), by omega, c + 1, rfl, by omega, rfl, hup4, hn4, hr4, ?_⟩
            rw [midM_same (by omega) hne]; exact hf4
          · have e0 : ((rnd l a).getD c 0 != (c : Int)) = true := by simpa using hne
            have hrow := hsq.2 c (by omega)
            obtain ⟨mi, mvs, i6, rfl, q1, q2, q3, q4, q5, q6, q7, q8, q9⟩ := hf4.setF (j := c) (by rw [hsq.1]; omega) (by omega)
            have ne6 : ¬ H'.next = i6 := by omega
            have ne7 : ¬ H.next = i6 := by omega
            have hMl := hsq.1
            rw [hrow] at q4
            try simp (disch := first | omega | (simp only [ints_length, List.length_replicate, List.length_set]; done) | (simp only [ints_length, List.length_replicate, List.length_set]; omega)) only [Sall,evalOp,init,binE,binI,unE,convE,okNil,builtE,gv,TD.isAgg,resV,↓reduceIte,Nat.reduceEqDiff,reduceCtorEq,Nat.reduceAdd,Nat.reduceMul,Nat.reduceLeDiff,quietOp,blindOp,Int.reduceEq,Int.reduceLT,Int.reduceLE,Nat.reduceLT,ti2,ti3,ti4,ti45,ti46,ti38,ti25,ti30,ti22,ti32,ti24,ti95,ti172,ti169,ti165,ti166,ti65,ti143,ti87, h19, h5, hr5, ints_get?, e0, h18, h13, h12, h11, h3, h1, w64]
            (repeat refine And.intro (by omega) ?_)
            refine draw_id (by kernel_rfl) (by kernel_rfl) ?_
            try simp (disch := first | omega | (simp only [ints_length, List.length_replicate, List.length_set]; done) | (simp only [ints_length, List.length_replicate, List.length_set]; omega)) only [Sall,evalOp,init,binE,binI,unE,convE,okNil,builtE,gv,TD.isAgg,resV,↓reduceIte,Nat.reduceEqDiff,reduceCtorEq,Nat.reduceAdd,Nat.reduceMul,Nat.reduceLeDiff,quietOp,blindOp,Int.reduceEq,Int.reduceLT,Int.reduceLE,Nat.reduceLT,ti2,ti3,ti4,ti45,ti46,ti38,ti25,ti30,ti22,ti32,ti24,ti95,ti172,ti169,ti165,ti166,ti65,ti143,ti87, h19, h5, hr5, ints_get?, h3, q3, q4, q8, ints_set]
            rw [hMl]
            (repeat refine And.intro (by omega) ?_)
            refine ⟨.inr (.inl (by kernel_rfl)), ?_⟩
            try simp (disch := first | omega | (simp only [ints_length, List.length_replicate, List.length_set]; done) | (simp only [ints_length, List.length_replicate, List.length_set]; omega)) only [Sall,evalOp,init,binE,binI,unE,convE,okNil,builtE,gv,TD.isAgg,resV,↓reduceIte,Nat.reduceEqDiff,reduceCtorEq,Nat.reduceAdd,Nat.reduceMul,Nat.reduceLeDiff,quietOp,blindOp,Int.reduceEq,Int.reduceLT,Int.reduceLE,Nat.reduceLT,ti2,ti3,ti4,ti45,ti46,ti38,ti25,ti30,ti22,ti32,ti24,ti95,ti172,ti169,ti165,ti166,ti65,ti143,ti87, h19, h18, h5, h13, h12, h11, h3, h1, w64, ne6, ne7, hr4]
            refine ⟨n - (c + 1), by omega, c + 1, rfl, by omega, rfl, hup4.set (by omega) _, hn4, ?_⟩
            have q10 := q9 (incR ((midM n l a c).getD c []) ((rnd l a).getD c 0)) (incR_length _ _)
            rw [hMl] at q10
            rw [midM_inc (by omega) hne]
            unfold incM
            rw [Int.toNat_natCast]
            exact q10
        · try simp (disch := first | omega | (simp only [ints_length, List.length_replicate, List.length_set]; done) | (simp only [ints_length, List.length_replicate, List.length_set]; omega)) only [Sall,evalOp,init,binE,binI,unE,convE,okNil,builtE,gv,TD.isAgg,resV,↓reduceIte,Nat.reduceEqDiff,reduceCtorEq,Nat.reduceAdd,Nat.reduceMul,Nat.reduceLeDiff,quietOp,blindOp,Int.reduceEq,Int.reduceLT,Int.reduceLE,Nat.reduceLT,ti2,ti3,ti4,ti45,ti46,ti38,ti25,ti30,ti22,ti32,ti24,ti95,ti172,ti169,ti165,ti166,ti65,ti143,ti87, h13, h12, h11, h3, h1, w64]
          have hc : c = n := by omega
          subst hc
          refine ⟨k - (a + 1), by omega, a + 1, rfl, by omega, rfl, hup4, by omega, hr4, ?_⟩
          rw [← midM_all]; exact hf4
    · have ha : a = k := by omega
      subst ha
      try simp (disch := first | omega | (simp only [ints_length, List.length_replicate, List.length_set]; done) | (simp only [ints_length, List.length_replicate, List.length_set]; omega)) only [Sall,evalOp,init,binE,binI,unE,convE,okNil,builtE,gv,TD.isAgg,resV,↓reduceIte,Nat.reduceEqDiff,reduceCtorEq,Nat.reduceAdd,Nat.reduceMul,Nat.reduceLeDiff,quietOp,blindOp,Int.reduceEq,Int.reduceLT,Int.reduceLE,Nat.reduceLT,ti2,ti3,ti4,ti45,ti46,ti38,ti25,ti30,ti22,ti32,ti24,ti95,ti172,ti169,ti165,ti166,ti65,ti143,ti87, h3]
      exact ⟨hup, hf'.wide (by omega) hnx⟩

theorem l01Meetings_c (n : Nat) (v : Value) (k : Nat) (l : List Int) (H : AH) (hb : schedB n k l = true) (hv : Rd 14 H v k l) (hk : k ≤ 4294967296) :
    ACalls Try.prog 164 [.agg #[.int .i64 n, v]] H (fun u H' => Up H.next H H' ∧ Fr2 1 38 2 H.next H'.next H' u (meetM n l k)) := by
  refine ACalls.wf (by kernel_rfl) fun hs => acalls_of_awp [.tmp 2] Try.func164 (by kernel_rfl) rfl rfl (Nat.le_of_ble_eq_true rfl) (by kernel_rfl) ?_
  obtain ⟨hn, hk40, hrounds⟩ := schedB_at hb
  have hone := hv.one
  have up : Up H.next H (H.push ⟨32, true, [.int .i64 n, v]⟩) := (Up.refl _ H).push (Nat.le_refl _) _
  have e1 : (H.push ⟨32, true, [.int .i64 n, v]⟩).row H.next = some ⟨32, true, [.int .i64 n, v]⟩ := by rw [AH.push_row, if_pos rfl]
  have n1 : (H.push ⟨32, true, [.int .i64 n, v]⟩).next = H.next + 1 := rfl
  try simp (disch := first | omega | (simp only [ints_length, List.length_replicate, List.length_set]; done) | (simp only [ints_length, List.length_replicate, List.length_set]; omega)) only [Sall,evalOp,init,binE,binI,unE,convE,okNil,builtE,gv,TD.isAgg,resV,↓reduceIte,Nat.reduceEqDiff,reduceCtorEq,Nat.reduceAdd,Nat.reduceMul,Nat.reduceLeDiff,quietOp,blindOp,Int.reduceEq,Int.reduceLT,Int.reduceLE,Nat.reduceLT,ti2,ti3,ti4,ti45,ti46,ti38,ti25,ti30,ti22,ti32,ti24,ti95,ti172,ti169,ti165,ti166,ti65,ti143,ti87, hone]
  revert up e1 n1
  generalize H.push ⟨32, true, [.int .i64 n, v]⟩ = H1
  intro up e1 n1
  try simp (disch := first | omega | (simp only [ints_length, List.length_replicate, List.length_set]; done) | (simp only [ints_length, List.length_replicate, List.length_set]; omega)) only [Sall,evalOp,init,binE,binI,unE,convE,okNil,builtE,gv,TD.isAgg,resV,↓reduceIte,Nat.reduceEqDiff,reduceCtorEq,Nat.reduceAdd,Nat.reduceMul,Nat.reduceLeDiff,quietOp,blindOp,Int.reduceEq,Int.reduceLT,Int.reduceLE,Nat.reduceLT,ti2,ti3,ti4,ti45,ti46,ti38,ti25,ti30,ti22,ti32,ti24,ti95,ti172,ti169,ti165,ti166,ti65,ti143,ti87, zeros_zero]
  refine awp_loop (fun m t H' => ∃ (a : Nat) (u : Value) (lo hi : Nat), m = n - a ∧ a ≤ n ∧ t 4 = .int .i64 a ∧ t 3 = u ∧ t 1 = .pointer (some ⟨H.next, 0, none⟩) ∧ Up H.next H H' ∧ H'.row H.next = some ⟨32, true, [.int .i64 n, v]⟩ ∧ H.next < lo ∧ lo ≤ hi ∧ hi ≤ H'.next ∧ Fr2 1 38 2 lo hi H' u ((List.range a).map fun a => rowM n l a k)) n ?_ ?_
  · refine ⟨0, .slice (some ⟨H.next + 1, 0, some 1⟩) 0 0, H.next + 1, H.next + 2, by omega, by omega, ?_⟩
    try simp (disch := first | omega | (simp only [ints_length, List.length_replicate, List.length_set]; done) | (simp only [ints_length, List.length_replicate, List.length_set]; omega)) only [Sall,evalOp,init,binE,binI,unE,convE,okNil,builtE,gv,TD.isAgg,resV,↓reduceIte,Nat.reduceEqDiff,reduceCtorEq,Nat.reduceAdd,Nat.reduceMul,Nat.reduceLeDiff,quietOp,blindOp,Int.reduceEq,Int.reduceLT,Int.reduceLE,Nat.reduceLT,ti2,ti3,ti4,ti45,ti46,ti38,ti25,ti30,ti22,ti32,ti24,ti95,ti172,ti169,ti165,ti166,ti65,ti143,ti87, Int.natCast_zero]
    refine ⟨up.push (by omega) _, by rw [if_neg (by omega), e1], ?_⟩
    (repeat refine And.intro (by omega) ?_)
    exact .inr ⟨H.next + 1, [], fun _ => H.next + 2, by omega, by omega, rfl, by rw [AH.push_row, if_pos (by omega)], rfl, by dsimp only; omega, by dsimp only; omega, .inl (by dsimp only; omega), fun _ => Nat.le_refl _, fun j hj => by simp at hj⟩
  · rintro m t H' ⟨a, u, lo, hi, hm, h14, h4, h3, h1, hup, hr1, hlo, hlh, hhi, hfr⟩
    try simp (disch := first | omega | (simp only [ints_length, List.length_replicate, List.length_set]; done) | (simp only [ints_length, List.length_replicate, List.length_set]; omega)) only [Sall,evalOp,init,binE,binI,unE,convE,okNil,builtE,gv,TD.isAgg,resV,↓reduceIte,Nat.reduceEqDiff,reduceCtorEq,Nat.reduceAdd,Nat.reduceMul,Nat.reduceLeDiff,quietOp,blindOp,Int.reduceEq,Int.reduceLT,Int.reduceLE,Nat.reduceLT,ti2,ti3,ti4,ti45,ti46,ti38,ti25,ti30,ti22,ti32,ti24,ti95,ti172,ti169,ti165,ti166,ti65,ti143,ti87, h4, h1, hr1]
    refine condC_dec (fun h => ?_) (fun h => ?_)
    · have zz : zeros 1 [.slice none 0 0] = [.slice none 0 0] := rfl
      have hup1 := hup.next
      have neH : ¬ H.next = H'.next := by omega
      try simp (disch := first | omega | (simp only [ints_length, List.length_replicate, List.length_set]; done) | (simp only [ints_length, List.length_replicate, List.length_set]; omega)) only [Sall,evalOp,init,binE,binI,unE,convE,okNil,builtE,gv,TD.isAgg,resV,↓reduceIte,Nat.reduceEqDiff,reduceCtorEq,Nat.reduceAdd,Nat.reduceMul,Nat.reduceLeDiff,quietOp,blindOp,Int.reduceEq,Int.reduceLT,Int.reduceLE,Nat.reduceLT,ti2,ti3,ti4,ti45,ti46,ti38,ti25,ti30,ti22,ti32,ti24,ti95,ti172,ti169,ti165,ti166,ti65,ti143,ti87, h1, hr1, zeros_int0]
      (repeat refine And.intro (by omega) ?_)
      obtain ⟨H2, e2⟩ : ∃ H2, H2 = H'.push ⟨2, true, ints (List.replicate n 0)⟩ := ⟨_, rfl⟩
      have n2 : H2.next = H'.next + 1 := by rw [e2]; rfl
      have s2 : ∀ i, i < H'.next → H2.row i = H'.row i := fun i hi => by rw [e2, AH.push_row, if_neg (by omega)]
      have x2 : H2.row H'.next = some ⟨2, true, ints (List.replicate n 0)⟩ := by rw [e2, AH.push_row, if_pos rfl]
      have up2 : Up H.next H H2 := ⟨by omega, fun i hi => by rw [s2 i (by omega), hup.row i hi]⟩
      rw [← e2]
      clear e2
      refine awp_loop (fun z t H3 => ∃ (i : Nat), z = k - i ∧ i ≤ k ∧ t 6 = .int .i64 i ∧ t 5 = .slice (some ⟨H'.next, 0, some 1⟩) n n ∧ t 4 = .int .i64 a ∧ t 3 = u ∧ t 1 = .pointer (some ⟨H.next, 0, none⟩) ∧ H3.next = H2.next ∧ (∀ i, i < H'.next → H3.row i = H'.row i) ∧ H3.row H'.next = some ⟨2, true, ints (rowM n l a i)⟩) k ?_ ?_
      · refine ⟨0, by omega, by omega, ?_⟩
        try simp (disch := first | omega | (simp only [ints_length, List.length_replicate, List.length_set]; done) | (simp only [ints_length, List.length_replicate, List.length_set]; omega)) only [Sall,evalOp,init,binE,binI,unE,convE,okNil,builtE,gv,TD.isAgg,resV,↓reduceIte,Nat.reduceEqDiff,reduceCtorEq,Nat.reduceAdd,Nat.reduceMul,Nat.reduceLeDiff,quietOp,blindOp,Int.reduceEq,Int.reduceLT,Int.reduceLE,Nat.reduceLT,ti2,ti3,ti4,ti45,ti46,ti38,ti25,ti30,ti22,ti32,ti24,ti95,ti172,ti169,ti165,ti166,ti65,ti143,ti87, Int.natCast_zero, rowM_zero, h4, h3, h1]
        exact ⟨s2, x2⟩
      · rintro z t H3 ⟨i, hz, hik, h6, h5, h4, h3, h1, hn3, s3, x3⟩
        have hr3 : H3.row H.next = some ⟨32, true, [.int .i64 n, v]⟩ := by rw [s3 _ (by omega), hr1]
        try simp (disch := first | omega | (simp only [ints_length, List.length_replicate, List.length_set]; done) | (simp only [ints_length, List.length_replicate, List.length_set]; omega)) only [Sall,evalOp,init,binE,binI,unE,convE,okNil,builtE,gv,TD.isAgg,resV,↓reduceIte,Nat.reduceEqDiff,reduceCtorEq,Nat.reduceAdd,Nat.reduceMul,Nat.reduceLeDiff,quietOp,blindOp,Int.reduceEq,Int.reduceLT,Int.reduceLE,Nat.reduceLT,ti2,ti3,ti4,ti45,ti46,ti38,ti25,ti30,ti22,ti32,ti24,ti95,ti172,ti169,ti165,ti166,ti65,ti143,ti87, h6, h1, hr3, builtE, hv.len]
        refine condC_dec (fun hh => ?_) (fun hh => ?_)
        · obtain ⟨i', o', u', c', r', rfl, hrB', hc', hs', hg'⟩ := hv.get (by omega)
          have hiB := hs _ _ hrB'
          have hr' : H3.row i' = some r' := by rw [s3 _ (by omega), hup.row _ hiB, hrB']
          have hrl : (rnd l i).length = 14 := rnd_length l i k hv.1 (by omega)
          obtain ⟨_, ha4, ha5, _⟩ := roundB_at (hrounds i (by omega)) (a := a) (by omega)
          have hcell : r'.cells[o' + i * 14 + a]? = some (.int .i64 ((rnd l i).getD a 0)) := by
            have h1 := hs' (i * 14 + a) (by omega)
            rw [← Nat.add_assoc] at h1
            rw [h1]
            congr 2
            unfold rnd
            rw [List.getD_eq_getElem?_getD, List.getD_eq_getElem?_getD, List.getElem?_take, if_pos (by omega), List.getElem?_drop]
          have hrowl := rowM_length n l a i
          by_cases hne : (rnd l i).getD a 0 = (a : Int)
          · have e0 : ((rnd l i).getD a 0 != (a : Int)) = false := by rw [hne]; exact bne_self_eq_false _
            try simp (disch := first | omega | (simp only [ints_length, List.length_replicate, List.length_set]; done) | (simp only [ints_length, List.length_replicate, List.length_set]; omega)) only [Sall,evalOp,init,binE,binI,unE,convE,okNil,builtE,gv,TD.isAgg,resV,↓reduceIte,Nat.reduceEqDiff,reduceCtorEq,Nat.reduceAdd,Nat.reduceMul,Nat.reduceLeDiff,quietOp,blindOp,Int.reduceEq,Int.reduceLT,Int.reduceLE,Nat.reduceLT,ti2,ti3,ti4,ti45,ti46,ti38,ti25,ti30,ti22,ti32,ti24,ti95,ti172,ti169,ti165,ti166,ti65,ti143,ti87, h6, h5, h4, h3, h1, hr3, hr', hcell, e0, w64]
            (repeat refine And.intro (by omega) ?_)
            refine ⟨k - (i + 1), by omega, i + 1, rfl, by omega, rfl, hn3, s3, ?_⟩
            rw [rowM_succ]; unfold rowStep; rw [if_pos hne]; exact x3
          · have e0 : ((rnd l i).getD a 0 != (a : Int)) = true := by simpa using hne
            try simp (disch := first | omega | (simp only [ints_length, List.length_replicate, List.length_set]; done) | (simp only [ints_length, List.length_replicate, List.length_set]; omega)) only [Sall,evalOp,init,binE,binI,unE,convE,okNil,builtE,gv,TD.isAgg,resV,↓reduceIte,Nat.reduceEqDiff,reduceCtorEq,Nat.reduceAdd,Nat.reduceMul,Nat.reduceLeDiff,quietOp,blindOp,Int.reduceEq,Int.reduceLT,Int.reduceLE,Nat.reduceLT,ti2,ti3,ti4,ti45,ti46,ti38,ti25,ti30,ti22,ti32,ti24,ti95,ti172,ti169,ti165,ti166,ti65,ti143,ti87, h6, h5, h4, h3, h1, hr3, hr', hcell, e0, x3, ints_get?, ints_set, w64]
            (repeat refine And.intro (by omega) ?_)
            refine ⟨k - (i + 1), by omega, i + 1, rfl, by omega, rfl, hn3, fun j hj => by rw [if_neg (by omega)]; exact s3 j hj, ?_⟩
            rw [rowM_succ]; unfold rowStep; rw [if_neg hne]; rfl
        · have hik2 : i = k := by omega
          subst hik2
          have hrowl := rowM_length n l a i
          have ne1 : ¬ H'.next = H3.next := by omega
          try simp (disch := first | omega | (simp only [ints_length, List.length_replicate, List.length_set]; done) | (simp only [ints_length, List.length_replicate, List.length_set]; omega)) only [Sall,evalOp,init,binE,binI,unE,convE,okNil,builtE,gv,TD.isAgg,resV,↓reduceIte,Nat.reduceEqDiff,reduceCtorEq,Nat.reduceAdd,Nat.reduceMul,Nat.reduceLeDiff,quietOp,blindOp,Int.reduceEq,Int.reduceLT,Int.reduceLE,Nat.reduceLT,ti2,ti3,ti4,ti45,ti46,ti38,ti25,ti30,ti22,ti32,ti24,ti95,ti172,ti169,ti165,ti166,ti65,ti143,ti87, h5, h4, h3, h1, zz, slCells, x3]
          (repeat refine And.intro (by omega) ?_)
          obtain ⟨H4, e4⟩ : ∃ H4, H4 = H3.push ⟨38, true, [.slice (some ⟨H'.next, 0, some 1⟩) n n]⟩ := ⟨_, rfl⟩
          have n4 : H4.next = H3.next + 1 := by rw [e4]; rfl
          have s4 : ∀ j, j < H3.next → H4.row j = H3.row j := fun j hj => by rw [e4, AH.push_row, if_neg (by omega)]
          rw [← e4]
          clear e4
          refine appE_fr2 (hfr.same fun j _ hj => by rw [s4 j (by omega), s3 j (by omega)]) (m := n) (l := rowM n l a i) ⟨by omega, .inr ⟨H'.next, by omega, by omega, rfl, by rw [s4 _ (by omega), x3]⟩⟩ rfl (by decide) (by simp; omega) hlh (by omega) ?_
          intro v' H5 n5 s5 f5
          try simp (disch := first | omega | (simp only [ints_length, List.length_replicate, List.length_set]; done) | (simp only [ints_length, List.length_replicate, List.length_set]; omega)) only [Sall,evalOp,init,binE,binI,unE,convE,okNil,builtE,gv,TD.isAgg,resV,↓reduceIte,Nat.reduceEqDiff,reduceCtorEq,Nat.reduceAdd,Nat.reduceMul,Nat.reduceLeDiff,quietOp,blindOp,Int.reduceEq,Int.reduceLT,Int.reduceLE,Nat.reduceLT,ti2,ti3,ti4,ti45,ti46,ti38,ti25,ti30,ti22,ti32,ti24,ti95,ti172,ti169,ti165,ti166,ti65,ti143,ti87, h4, h1, w64]
          refine ⟨n - (a + 1), by omega, a + 1, v', lo, H4.next + 1, rfl, by omega, rfl, rfl, ⟨by omega, fun j hj => ?_⟩, ?_, by omega, by omega, by omega, ?_⟩
          · rw [s5 j (by omega) (by omega), s4 j (by omega), s3 j (by omega), hup.row j hj]
          · rw [s5 _ (by omega) (by omega), s4 _ (by omega), s3 _ (by omega), hr1]
          · rw [List.range_succ, List.map_append]; exact f5
    · have ha : a = n := by omega
      subst ha
      try simp (disch := first | omega | (simp only [ints_length, List.length_replicate, List.length_set]; done) | (simp only [ints_length, List.length_replicate, List.length_set]; omega)) only [Sall,evalOp,init,binE,binI,unE,convE,okNil,builtE,gv,TD.isAgg,resV,↓reduceIte,Nat.reduceEqDiff,reduceCtorEq,Nat.reduceAdd,Nat.reduceMul,Nat.reduceLeDiff,quietOp,blindOp,Int.reduceEq,Int.reduceLT,Int.reduceLE,Nat.reduceLT,ti2,ti3,ti4,ti45,ti46,ti38,ti25,ti30,ti22,ti32,ti24,ti95,ti172,ti169,ti165,ti166,ti65,ti143,ti87, h3]
      exact ⟨hup, hfr.wide (by omega) hhi⟩
end Go.Proofs.Ytgkmdfjjlghecaa.A
end

section
set_option linter.unusedSimpArgs false
set_option linter.unusedVariables false
namespace Go.Proofs.Ytgkmdfjjlghecaa.A
open Go Go.RowKit Go.Shelf

attribute [local go_sem] Oper.semAt_some

/-- What has come when k rounds are over. -/
def upto (f : Nat → Int) (k : Nat) : List Int := (List.range k).map f
theorem upto_succ (f : Nat → Int) (k : Nat) : upto f (k + 1) = upto f k ++ [f k] := by simp [upto, List.range_succ]
theorem upto_length (f : Nat → Int) (k : Nat) : (upto f k).length = k := by simp [upto]
theorem upto_all (zs : List Int) : upto (fun j => zs[j]?.getD 0) zs.length = zs := by
  apply List.ext_getElem
  · simp [upto]
  · intro i h1 h2
    simp [upto, h2]
theorem upto_take (zs : List Int) {k : Nat} (hk : k ≤ zs.length) : upto (fun j => zs[j]?.getD 0) k = zs.take k := by
  apply List.ext_getElem
  · simp [upto, hk]
  · intro i h1 h2
    have : i < zs.length := by simp [upto] at h1; omega
    simp [upto, this]

set_option maxRecDepth 100000 in
set_option maxHeartbeats 2000000 in
theorem values1_in (F : Fence) (n : Nat) (h7 : F.fn 210) (hro : F.round = none) (hn : 1 ≤ n) (l Bs n₀ b off len cap : Nat) (zs : List Int) (hreach : len * 8 ≤ 140737488351232) (hb : b < n₀) (J Jx : List Int → World → Prop)
    (hY : ∀ pre x W, J pre W → pre.length < len → YieldAt F (n - 1) Try.prog l #[.int .i64 x] W fun e W' =>
      (e = .returned (.bool true) ∧ J (pre ++ [x]) W' ∧ Below n₀ W W') ∨ (e = .returned (.bool false) ∧ Jx (pre ++ [x]) W'))
    (W : World) (hBs : W.cell? ⟨Bs, 0, none⟩ = some (.slice (some ⟨b, off, none⟩) len cap)) (hc : ∀ j, j < len → W.cell? ⟨b, off + j, none⟩ = some (.int .i64 (zs[j]?.getD 0))) (h0 : J [] W) :
    CallsIn F n Try.prog 210 #[.func (.yield l) #[] #[], .pointer (some ⟨Bs, 0, none⟩)] W fun e W' => (∃ v, e = .returned v) ∧
      ((∃ ys, ys = upto (fun j => zs[j]?.getD 0) len ∧ J ys W') ∨ (∃ pre, (∃ k, k ≤ len ∧ pre = upto (fun j => zs[j]?.getD 0) k) ∧ Jx pre W')) := by
  refine callsIn_of_wp Try.func210 rfl h7 ?_ hro
  simp only [Try.ntmps210, List.size_toArray, List.length_cons, List.length_nil, Nat.reduceAdd, Nat.reduceSub, Array.replicate_succ, Array.replicate_zero, List.push_toArray, List.append_toArray, List.nil_append, List.cons_append]
  gi_wp2
  gi_loopw [7] (fun i wr => ∃ k : Nat, k ≤ len ∧ i = .int .i64 k ∧ J (upto (fun j => zs[j]?.getD 0) k) wr ∧ Below n₀ W wr)
    (fun i _ => len - (intOf i).toNat)
  case atStart => exact ⟨0, Nat.zero_le _, rfl, h0, Below.refl _ _⟩
  case round =>
    obtain ⟨k, hk, rfl, hJs, hnx⟩ := hrel
    have hcx : k < len → wr.cell? ⟨b, off + k, none⟩ = some (.int .i64 (zs[k]?.getD 0)) := fun h => (hnx.cell (p := ⟨b, off + k, none⟩) hb).trans (hc k h)
    by_cases hlt : k < len
    · obtain ⟨fn, tmps, assign, body, hy, hR⟩ := hY _ (zs[k]?.getD 0) wr hJs (by rw [upto_length]; exact hlt)
      have hcx' := hcx hlt
      gi_wp2
      refine hR.mono ?_
      rintro e W3 (⟨rfl, hJ3, hk3⟩ | ⟨rfl, hJx3⟩)
      · gi_wp2
        go_roundw
        case rel => exact ⟨k + 1, by omega, by simp, by rw [upto_succ]; exact hJ3, hnx.trans hk3⟩
        case measure => simp [intOf]; omega
      · gi_wp2
        refine bodyPost_ret (results_none rfl _ _ _) rfl ?_
        exact ⟨⟨_, rfl⟩, .inr ⟨_, ⟨k + 1, by omega, (upto_succ _ _).symm⟩, hJx3⟩⟩
    · obtain rfl : k = len := by omega
      gi_wp2
      go_end0
      exact ⟨⟨_, rfl⟩, .inl ⟨_, rfl, hJs⟩⟩

/-- A slice without elements gives nothing. -/
theorem values1_none_in (F : Fence) (n : Nat) (h7 : F.fn 210) (hro : F.round = none) (l Bs : Nat) (a : Option Addr) (cap : Nat) (J : List Int → World → Prop) (W : World) (hBs : W.cell? ⟨Bs, 0, none⟩ = some (.slice a 0 cap)) (h0 : J [] W) :
    CallsIn F n Try.prog 210 #[.func (.yield l) #[] #[], .pointer (some ⟨Bs, 0, none⟩)] W fun e W' => (∃ v, e = .returned v) ∧ J [] W' := by
  refine callsIn_of_wp Try.func210 rfl h7 ?_ hro
  simp only [Try.ntmps210, List.size_toArray, List.length_cons, List.length_nil, Nat.reduceAdd, Nat.reduceSub, Array.replicate_succ, Array.replicate_zero, List.push_toArray, List.append_toArray, List.nil_append, List.cons_append]
  gi_wp2
  gi_loopw [7] (fun i wr => i = .int .i64 0 ∧ J [] wr) (fun _ _ => 0)
  case atStart => exact ⟨rfl, h0⟩
  case round =>
    obtain ⟨rfl, hJs⟩ := hrel
    gi_wp2
    go_end0
    exact ⟨⟨_, rfl⟩, hJs⟩

/-- The slice value sv holds the numbers zs, in a block below n₀; or there are none. -/
def IntsAt (n₀ : Nat) (W : World) (sv : Value) (zs : List Int) : Prop :=
  (∃ a cap, sv = .slice a 0 cap ∧ zs = []) ∨ ∃ b off cap, sv = .slice (some ⟨b, off, none⟩) zs.length cap ∧ b < n₀ ∧ ∀ j, j < zs.length → W.cell? ⟨b, off + j, none⟩ = some (.int .i64 (zs[j]?.getD 0))
theorem IntsAt.below {n₀ : Nat} {A B : World} (h : Below n₀ A B) {sv : Value} {zs : List Int} : IntsAt n₀ A sv zs → IntsAt n₀ B sv zs
  | .inl e => .inl e
  | .inr ⟨b, off, cap, e, hb, hc⟩ => .inr ⟨b, off, cap, e, hb, fun j hj => (h.cell (p := ⟨b, off + j, none⟩) hb).trans (hc j hj)⟩

theorem values_stops (F : Fence) (n : Nat) (h7 : F.fn 210) (hro : F.round = none) (hn : 1 ≤ n) (Bs n₀ : Nat) (sv : Value) (zs : List Int) (hreach : zs.length * 8 ≤ 140737488351232) (w : World) (hBs : Bs < w.heap.size) (hn₀ : n₀ ≤ w.heap.size)
    (hc : w.cell? ⟨Bs, 0, none⟩ = some sv) (hI : IntsAt n₀ w sv zs) :
    SeqStopsK F n Try.prog 210 #[.pointer (some ⟨Bs, 0, none⟩)] (fun x : Int => #[Value.int .i64 x]) (Below n₀) (fun ys => ys = zs) (fun pre => pre <+: zs) zs.length w := fun l J Jx W hW _ _ hY h0 => by
  have hc' := (hW.cell (p := ⟨Bs, 0, none⟩) hBs).trans hc
  rcases hI.below (hW.mono hn₀) with ⟨a, cap, rfl, rfl⟩ | ⟨b, off, cap, rfl, hb, hcs⟩
  · exact (values1_none_in F n h7 hro l Bs a cap J W hc' h0).mono fun e W' ⟨he, hj⟩ => ⟨he, .inl ⟨_, rfl, hj⟩⟩
  · refine (values1_in F n h7 hro hn l Bs n₀ b off zs.length cap zs hreach hb J Jx hY W hc' hcs h0).mono ?_
    rintro e W' ⟨he, ⟨ys, rfl, hj⟩ | ⟨pre, ⟨k, hk, rfl⟩, hj⟩⟩
    · exact ⟨he, .inl ⟨_, upto_all zs, hj⟩⟩
    · exact ⟨he, .inr ⟨_, by rw [upto_take zs hk]; exact List.take_prefix _ _, hj⟩⟩

theorem info_el : (Try.prog.info? 2).map (fun i => (i.zero, i.size, i.bytes)) = some (some (.int .i64 0), 1, 8) := by kernel_rfl

set_option maxRecDepth 100000 in
set_option maxHeartbeats 2000000 in
/-- A new slice with what the iterator gives. -/
theorem appendSeq_in (F : Fence) (n : Nat) (h3 : F.fn 228) (h5 : F.fn 210) (hro : F.round = none) (hn : 3 ≤ n) (Bs : Nat) (sv : Value) (xs : List Int) (hlen : xs.length ≤ maxLen) (hbytes : xs.length * 8 ≤ 140737488351232) (w : World)
    (hBs : Bs < w.heap.size) (hc : w.cell? ⟨Bs, 0, none⟩ = some sv) (hI : IntsAt w.heap.size w sv xs) :
    CallsIn F n Try.prog 228 #[.slice none 0 0, .func (.func 210) #[] #[.pointer (some ⟨Bs, 0, none⟩)]] w fun e W' => ∃ v, e = .returned v ∧ W'.ownsRow w.heap.size 2 1 v xs.length (xs.map (Value.int .i64)) ∧ (v = .slice none 0 0 ↔ xs = []) ∧ Below w.heap.size w W' := by
  have h1 : 1 ≤ n := by omega
  obtain ⟨i0, hi, hz0, hz1, hz2⟩ := info_parts info_el
  refine callsIn_of_wp_marks Try.func228 rfl h3 ?_ hro
  simp only [Try.ntmps228, List.size_toArray, List.length_cons, List.length_nil, Nat.reduceAdd, Nat.reduceSub, Array.replicate_succ, Array.replicate_zero, List.push_toArray, List.append_toArray, List.nil_append, List.cons_append]
  gi_wp2
  have bO := Boxed.new w 38 (.slice none 0 0)
  have hB0 : Below w.heap.size w (w.alloc (.cells #[.slice none 0 0] 38)) := (Below.refl _ w).alloc (Nat.le_refl _) _
  have hc0 : (w.alloc (.cells #[.slice none 0 0] 38)).cell? ⟨Bs, 0, none⟩ = some sv := (hB0.cell (p := ⟨Bs, 0, none⟩) hBs).trans hc
  refine wpIn_rangeFunc_ownG hro h1 (gf := 210) (lb := #[.pointer (some ⟨Bs, 0, none⟩)]) rfl h5 (enters_of Try.func210 (by kernel_rfl) rfl)
    (values_stops F (n - 1) h5 hro (by omega) Bs w.heap.size sv xs hbytes _ (by simp; omega) (by simp) hc0 (hI.below hB0)) belowK_t (belowK_b (by simp)) (Below.refl _ _) (fun _ => rfl)
    (fun pre W => (∃ v, Boxed W w.heap.size 38 v ∧ W.ownsRow w.heap.size 2 1 v pre.length (pre.map (Value.int .i64)) ∧ (v = .slice none 0 0 ↔ pre = [])) ∧ Below w.heap.size w W)
    (fun _ _ _ => False)
    (OwnFrom.and (Own.from (holdsRow_own w.heap.size w.heap.size 38 2 1 (fun pre => pre.length) (fun pre => pre.map (Value.int .i64)) (fun pre v => v = .slice none 0 0 ↔ pre = [])) _) (ownFrom_below (Nat.le_refl _) (by simp)))
    (fun _ _ _ _ _ hs _ _ => hs)
    ⟨⟨_, bO, World.ownsRow_nil _ _ _ _, by simp⟩, hB0⟩
    (fun x => { tmps := #[.slice none 0 0, .func (.func 210) #[] #[.pointer (some ⟨Bs, 0, none⟩)], .pointer (some ⟨w.heap.size, 0, none⟩), undef, .slice none 0 0, .int .i64 x, .func (.func 210) #[] #[.pointer (some ⟨Bs, 0, none⟩)], .int .i64 x, undef, undef, undef, undef, undef], defers := [] }) ?assign ?body ?done ?stop
  case assign =>
    intro l x W K hK
    gi_wp2
    exact hK
  case body =>
    rintro l pre x W ⟨⟨v, hv, hrow, hnil⟩, hB⟩ hlt
    have hc := hv.cell
    gi_wp2_with (gi_at_builtin; refine wpListIn_append_own _ rfl _ _ 38 rfl w.heap.size 2 i0 (.int .i64 0) 1 8 Try.underlying38 hi hz0 hz1 hz2 rfl (by decide) _ _ _ rfl (hrow.alloc _) ⟨W.heap.size, 0, none⟩ 1 1 [.int .i64 x] rfl rfl (cell_one_new _ _ _) (by simp [Value.oneCell']) (by omega) (by omega) (by have := hB.size; simp; omega) ?_; intro v' w1 hown' hgrow _; obtain ⟨g', cap', rfl⟩ := ownsRow_succ hown'; obtain ⟨hv1, hv2, hr2, hk2, hb2⟩ := hv.appended (by decide) hrow hB.size (Nat.le_refl _) hown' hgrow; have hc1 := hv1.cell; have hf1 := hv1.frozen)
    exact ⟨hk2.from _, hb2, ⟨_, hv2, by simpa using hr2, by simp⟩, hB.trans hb2⟩
  case done =>
    rintro D ys W hD rfl ⟨⟨v, hv, hrow, hnil⟩, hB⟩ hK
    have hc := hv.cell
    gi_wp2
    refine ⟨by simp, .inl ⟨_, _, rfl, run_takeDeferred hK, ?_⟩⟩
    exact ⟨_, results_tmp rfl _ _ _, v, rfl, ownsRow_putObj hrow _ hK rfl, hnil, hB.trans (belowK_b (w := w) (Nat.le_refl _) W D _ _ (by simp at hD; omega) hK rfl rfl)⟩
  case stop =>
    rintro D c pre W _ _ h _
    exact h.elim
end Go.Proofs.Ytgkmdfjjlghecaa.A
end

section
set_option linter.unusedSimpArgs false
set_option linter.unusedVariables false
namespace Go.Abs

def sortedL (zs : List Int) : List Int := zs.mergeSort fun x y => decide (x ≤ y)
theorem sortedL_length (zs : List Int) : (sortedL zs).length = zs.length := by simp [sortedL]
theorem sortedL_perm (zs : List Int) : (sortedL zs).Perm zs := List.mergeSort_perm _ _
theorem sortedL_sorted (zs : List Int) : (sortedL zs).Pairwise (fun x y => x ≤ y) := by
  have h := List.pairwise_mergeSort (le := fun x y : Int => decide (x ≤ y)) (fun a b c h1 h2 => by simp at *; omega) (fun a b => by simp; omega) zs
  exact h.imp (by simp)

theorem sorted_unique : ∀ {a b : List Int}, a.Perm b → a.Pairwise (fun x y => x ≤ y) → b.Pairwise (fun x y => x ≤ y) → a = b
  | [], b, h, _, _ => by rw [List.nil_perm] at h; exact h.symm
  | x :: a, [], h, _, _ => by rw [List.perm_nil] at h; exact h
  | x :: a, y :: b, h, ha, hb => by
    have hxy : x = y := by
      have h1 : x ∈ y :: b := h.subset (List.mem_cons_self)
      have h2 : y ∈ x :: a := h.symm.subset (List.mem_cons_self)
      have ha' : ∀ z ∈ a, x ≤ z := fun z hz => List.rel_of_pairwise_cons ha hz
      have hb' : ∀ z ∈ b, y ≤ z := fun z hz => List.rel_of_pairwise_cons hb hz
      rcases List.mem_cons.1 h1 with e | e
      · exact e
      · rcases List.mem_cons.1 h2 with e2 | e2
        · exact e2.symm
        · have := ha' _ e2; have := hb' _ e; omega
    subst hxy
    rw [sorted_unique ((List.perm_cons x).1 h) ha.of_cons hb.of_cons]

theorem seqL_pair (a : Int) (n : Nat) : (seqL a n).Pairwise (fun x y => x < y) := by
  unfold seqL
  rw [List.pairwise_map]
  exact List.pairwise_lt_range.imp (by intro x y h; omega)
theorem seqL_sorted (a : Int) (n : Nat) : (seqL a n).Pairwise (fun x y => x ≤ y) := (seqL_pair a n).imp (by intro x y h; omega)
theorem seqL_nodup (a : Int) (n : Nat) : (seqL a n).Nodup := (seqL_pair a n).imp (by intro x y h; omega)
theorem mem_seqL_iff (a : Int) (n : Nat) (x : Int) : x ∈ seqL a n ↔ a ≤ x ∧ x < a + n := by
  unfold seqL
  rw [List.mem_map]
  constructor
  · rintro ⟨i, hi, rfl⟩
    have : i < n := by simpa using hi
    constructor <;> omega
  · rintro ⟨h1, h2⟩
    exact ⟨(x - a).toNat, by simp; omega, by omega⟩

theorem sortedL_eq {y z : List Int} (h : y.Perm z) (hz : z.Pairwise (fun x y => x ≤ y)) : sortedL y = z :=
  sorted_unique ((sortedL_perm y).trans h) (sortedL_sorted y) hz
theorem sortedL_seq (a : Int) (n : Nat) (y : List Int) : sortedL y = seqL a n ↔ y.Perm (seqL a n) :=
  ⟨fun h => h ▸ (sortedL_perm y).symm, fun h => sortedL_eq h (seqL_sorted a n)⟩

/-- As many different ones among others: all of them. -/
theorem perm_of_nodup {α : Type} [DecidableEq α] : ∀ (y z : List α), y.Nodup → (∀ x ∈ y, x ∈ z) → z.length ≤ y.length → y.Perm z
  | [], z, _, _, h => by
    have : z = [] := List.eq_nil_of_length_eq_zero (by simpa using h)
    rw [this]
  | a :: y, z, hn, hs, h => by
    have ha : a ∈ z := hs a (List.mem_cons_self)
    have hn' := List.nodup_cons.1 hn
    have hp := List.perm_cons_erase ha
    have hl := List.length_erase_of_mem ha
    have hz : 0 < z.length := List.length_pos_of_mem ha
    have ih := perm_of_nodup y (z.erase a) hn'.2 (fun x hx => (List.mem_erase_of_ne (by rintro rfl; exact hn'.1 hx)).2 (hs x (List.mem_cons_of_mem _ hx))) (by rw [hl]; simp at h; omega)
    exact (ih.cons a).trans hp.symm

def ordB (n : Nat) (y : List Int) : Bool := decide (y.length = n) && decide (sortedL y = seqL 0 n)
theorem ordB_iff (n : Nat) (y : List Int) : ordB n y = true ↔ y.length = n ∧ (∀ x ∈ y, 0 ≤ x ∧ x < n) ∧ y.Nodup := by
  unfold ordB
  rw [Bool.and_eq_true, decide_eq_true_iff, decide_eq_true_iff, sortedL_seq]
  constructor
  · rintro ⟨h1, h2⟩
    refine ⟨h1, fun x hx => ?_, (h2.nodup_iff).2 (seqL_nodup 0 n)⟩
    have := (mem_seqL_iff 0 n x).1 (h2.subset hx)
    omega
  · rintro ⟨h1, h2, h3⟩
    exact ⟨h1, perm_of_nodup y _ h3 (fun x hx => (mem_seqL_iff 0 n x).2 (by have := h2 x hx; omega)) (by rw [seqL_length]; omega)⟩

theorem take_snoc {α : Type} (y : List α) (d : α) (i : Nat) (hi : i < y.length) : y.take (i + 1) = y.take i ++ [y.getD i d] := by
  rw [List.take_add_one, List.getElem?_eq_getElem hi, List.getD_eq_getElem?_getD, List.getElem?_eq_getElem hi]
  rfl
theorem nodup_snoc {α : Type} [DecidableEq α] {y : List α} {x : α} : (y ++ [x]).Nodup ↔ y.Nodup ∧ x ∉ y := by
  rw [List.nodup_append]
  constructor
  · rintro ⟨h1, _, h2⟩
    exact ⟨h1, fun h => h2 x h x (by simp) rfl⟩
  · rintro ⟨h1, h2⟩
    refine ⟨h1, by simp, fun a ha b hb e => ?_⟩
    rw [List.mem_singleton] at hb
    subst hb; subst e; exact h2 ha
theorem nodup_take {α : Type} {y : List α} (h : y.Nodup) (i : Nat) : (y.take i).Nodup := h.sublist (List.take_sublist _ _)

/-- What is known of the numbers that have been looked at. -/
def goodTo (n : Nat) (y : List Int) (i : Nat) : Prop := (∀ x ∈ y.take i, 0 ≤ x ∧ x < n) ∧ (y.take i).Nodup
theorem goodTo_zero (n : Nat) (y : List Int) : goodTo n y 0 := ⟨by simp, by simp⟩
theorem goodTo_succ {n : Nat} {y : List Int} {i : Nat} (hi : i < y.length) (h : goodTo n y i) (h1 : 0 ≤ y.getD i 0 ∧ y.getD i 0 < n) (h2 : (y.take i).contains (y.getD i 0) = false) : goodTo n y (i + 1) := by
  unfold goodTo
  rw [take_snoc y 0 i hi]
  refine ⟨fun x hx => ?_, nodup_snoc.2 ⟨h.2, fun hm => ?_⟩⟩
  · rcases List.mem_append.1 hx with hx | hx
    · exact h.1 x hx
    · rw [List.mem_singleton] at hx; rw [hx]; exact h1
  · rw [List.contains_iff_mem.2 hm] at h2; cases h2
theorem goodTo_all {n : Nat} {y : List Int} (h : goodTo n y y.length) : ordB n y = decide (y.length = n) := by
  unfold goodTo at h
  rw [List.take_length] at h
  by_cases e : y.length = n
  · rw [decide_eq_true e, ordB_iff]; exact ⟨e, h.1, h.2⟩
  · unfold ordB; rw [decide_eq_false e]; rfl
theorem ordB_bad {n : Nat} {y : List Int} {i : Nat} (hi : i < y.length) (h : ¬ (0 ≤ y.getD i 0 ∧ y.getD i 0 < n) ∨ (y.take i).contains (y.getD i 0) = true) : ordB n y = false := by
  rw [Bool.eq_false_iff]
  intro ho
  obtain ⟨_, h1, h2⟩ := (ordB_iff n y).1 ho
  rcases h with h | h
  · exact h (h1 _ (by rw [List.getD_eq_getElem?_getD, List.getElem?_eq_getElem hi]; exact List.getElem_mem _))
  · have h3 := nodup_take h2 (i + 1)
    rw [take_snoc y 0 i hi] at h3
    exact (nodup_snoc.1 h3).2 (List.contains_iff_mem.1 h)
theorem ordB_sorted_bad {n : Nat} {y : List Int} {i : Nat} (hi : i < y.length) (h : (sortedL y).getD i 0 ≠ (i : Int)) : ordB n y = false := by
  rw [Bool.eq_false_iff]
  intro ho
  unfold ordB at ho
  rw [Bool.and_eq_true, decide_eq_true_iff, decide_eq_true_iff] at ho
  rw [ho.2, seqL_getD 0 n i (by omega)] at h
  omega
theorem ordB_sorted_all {n : Nat} {y : List Int} (h : ∀ i, i < y.length → (sortedL y).getD i 0 = (i : Int)) : ordB n y = decide (y.length = n) := by
  by_cases e : y.length = n
  · unfold ordB
    rw [decide_eq_true e, Bool.true_and, decide_eq_true_iff]
    apply List.ext_getElem?
    intro i
    by_cases hi : i < y.length
    · have h1 := h i hi
      have h2 := seqL_getD 0 n i (by omega)
      rw [List.getElem?_eq_getElem (by rw [sortedL_length]; exact hi), List.getElem?_eq_getElem (by rw [seqL_length]; omega)]
      rw [List.getD_eq_getElem?_getD, List.getElem?_eq_getElem (by rw [sortedL_length]; exact hi)] at h1
      rw [List.getD_eq_getElem?_getD, List.getElem?_eq_getElem (by rw [seqL_length]; omega)] at h2
      simp only [Option.getD_some] at h1 h2
      rw [h1, h2]
      congr 1; omega
    · rw [List.getElem?_eq_none (by rw [sortedL_length]; omega), List.getElem?_eq_none (by rw [seqL_length]; omega)]
  · unfold ordB; rw [decide_eq_false e]; rfl

/-- Which numbers have been marked. -/
def metL (n : Nat) (y : List Int) : List Bool := (List.range n).map fun (j : Nat) => y.contains (j : Int)
theorem metL_length (n : Nat) (y : List Int) : (metL n y).length = n := by simp [metL]
theorem metL_nil (n : Nat) : metL n [] = List.replicate n false := by
  unfold metL
  exact List.eq_replicate_iff.2 ⟨by simp, by intro b hb; obtain ⟨a, _, rfl⟩ := List.mem_map.1 hb; rfl⟩
theorem metL_getD (n : Nat) (y : List Int) (x : Int) (h : 0 ≤ x ∧ x < n) : (metL n y).getD x.toNat false = y.contains x := by
  unfold metL
  rw [List.getD_eq_getElem?_getD, List.getElem?_map, List.getElem?_range (by omega)]
  simp only [Option.map_some, Option.getD_some]
  rw [show ((x.toNat : Nat) : Int) = x by omega]
theorem contains_snoc (y : List Int) (x z : Int) : (y ++ [x]).contains z = (y.contains z || z == x) := by
  rw [Bool.eq_iff_iff, Bool.or_eq_true, List.contains_iff_mem, List.contains_iff_mem, List.mem_append, List.mem_singleton, beq_iff_eq]
theorem metL_set (n : Nat) (y : List Int) (x : Int) (h : 0 ≤ x ∧ x < n) : (metL n y).set x.toNat true = metL n (y ++ [x]) := by
  apply List.ext_getElem?
  intro j
  rw [List.getElem?_set, metL_length]
  unfold metL
  rw [List.getElem?_map, List.getElem?_map]
  by_cases hj : j < n
  · rw [List.getElem?_range hj]
    simp only [Option.map_some]
    rw [contains_snoc]
    by_cases e : x.toNat = j
    · rw [if_pos e, if_pos (by omega)]
      have : ((j : Int) == x) = true := by rw [beq_iff_eq]; omega
      rw [this, Bool.or_true]
    · rw [if_neg e]
      have : ((j : Int) == x) = false := by rw [beq_eq_false_iff_ne]; omega
      rw [this, Bool.or_false]
  · have e : ¬ x.toNat = j := by omega
    rw [if_neg e, List.getElem?_eq_none (by simpa using hj)]
    rfl

/-! ### Steps -/
def stpI (n : Nat) (a b : Int) : Int := (b - a) % (n : Int)
def stpL (n : Nat) (y : List Int) : List Int := (List.range (y.length - 1)).map fun i => stpI n (y.getD i 0) (y.getD (i + 1) 0)
theorem stpL_length (n : Nat) (y : List Int) : (stpL n y).length = y.length - 1 := by simp [stpL]
theorem stpI_range {n : Nat} (hn : 0 < n) (a b : Int) : 0 ≤ stpI n a b ∧ stpI n a b < n :=
  ⟨Int.emod_nonneg _ (by omega), Int.emod_lt_of_pos _ (by omega)⟩
theorem stpI_impl {n : Nat} {a b : Int} (ha : 0 ≤ a ∧ a < n) (hb : 0 ≤ b ∧ b < n) : Int.tmod (b - a + n) n = stpI n a b := by
  unfold stpI
  rw [Int.tmod_eq_emod_of_nonneg (by omega), Int.add_emod_right]
theorem stpI_spec {n : Nat} (hn : 0 < n) (a b : Int) : Int.tmod (Int.tmod (b - a) n + n) n = stpI n a b := by
  have h1 : -(n : Int) < Int.tmod (b - a) n := by
    have := Int.lt_tmod_of_pos (b - a) (show (0 : Int) < n by omega)
    omega
  unfold stpI
  rw [Int.tmod_eq_emod_of_nonneg (by omega), Int.add_emod_right, Int.tmod_eq_emod]
  split
  · simp
  · rw [Int.natAbs_natCast, Int.sub_emod, Int.emod_emod_of_dvd _ (Int.dvd_refl _), Int.emod_self, Int.sub_zero, Int.emod_emod_of_dvd _ (Int.dvd_refl _)]
theorem stpI_ne {n : Nat} {a b : Int} (ha : 0 ≤ a ∧ a < n) (hb : 0 ≤ b ∧ b < n) (h : a ≠ b) : stpI n a b ≠ 0 := by
  unfold stpI
  intro e
  obtain ⟨k, hk⟩ := Int.dvd_of_emod_eq_zero e
  have h1 : -(n : Int) < n * k := by omega
  have h2 : (n : Int) * k < n := by omega
  have hn : (0 : Int) < n := by omega
  have hk0 : k = 0 := by
    rcases Int.lt_trichotomy k 0 with h3 | h3 | h3
    · have : (n : Int) * k ≤ n * (-1) := Int.mul_le_mul_of_nonneg_left (by omega) (by omega)
      omega
    · exact h3
    · have : (n : Int) * 1 ≤ n * k := Int.mul_le_mul_of_nonneg_left (by omega) (by omega)
      omega
  rw [hk0] at hk
  omega
def stpB (n : Nat) (y : List Int) : Bool := decide (stpL n y).Nodup
/-- Numbers that are different, and none is 0. -/
def diffB (s : List Int) : Bool := !s.contains 0 && decide s.Nodup
theorem diffB_steps {n : Nat} {y : List Int} (h1 : ∀ x ∈ y, 0 ≤ x ∧ x < n) (h2 : y.Nodup) : diffB (stpL n y) = stpB n y := by
  unfold diffB stpB
  have : (stpL n y).contains 0 = false := by
    rw [Bool.eq_false_iff]
    intro h
    rw [List.contains_iff_mem] at h
    unfold stpL at h
    obtain ⟨i, hi, e⟩ := List.mem_map.1 h
    have hi' : i < y.length - 1 := by simpa using hi
    have hm : ∀ j, j < y.length → y.getD j 0 ∈ y := fun j hj => by rw [List.getD_eq_getElem?_getD, List.getElem?_eq_getElem hj]; exact List.getElem_mem _
    refine stpI_ne (h1 _ (hm i (by omega))) (h1 _ (hm (i + 1) (by omega))) (fun e2 => ?_) e
    rw [List.getD_eq_getElem?_getD, List.getD_eq_getElem?_getD, List.getElem?_eq_getElem (by omega), List.getElem?_eq_getElem (by omega)] at e2
    simp only [Option.getD_some] at e2
    have := (List.getElem_inj h2).1 e2
    omega
  rw [this]; rfl
theorem stpL_take (n : Nat) (y : List Int) (i : Nat) (hi : i + 1 < y.length) : (stpL n y).take (i + 1) = (stpL n y).take i ++ [stpI n (y.getD i 0) (y.getD (i + 1) 0)] := by
  rw [take_snoc _ 0 i (by rw [stpL_length]; omega)]
  congr 2
  unfold stpL
  rw [List.getD_eq_getElem?_getD, List.getElem?_map, List.getElem?_range (by omega)]
  rfl
theorem stpB_bad {n : Nat} {y : List Int} {i : Nat} (hi : i + 1 < y.length) (h : ((stpL n y).take i).contains (stpI n (y.getD i 0) (y.getD (i + 1) 0)) = true) : stpB n y = false := by
  unfold stpB
  rw [decide_eq_false_iff_not]
  intro hn
  have h3 := nodup_take hn (i + 1)
  rw [stpL_take n y i hi] at h3
  exact (nodup_snoc.1 h3).2 (List.contains_iff_mem.1 h)
theorem stpL_snoc (n : Nat) (y : List Int) (x : Int) (hy : 0 < y.length) : stpL n (y ++ [x]) = stpL n y ++ [stpI n (y.getD (y.length - 1) 0) x] := by
  have hl : (y ++ [x]).length - 1 = (y.length - 1) + 1 := by rw [List.length_append, List.length_singleton]; omega
  unfold stpL
  rw [hl, List.range_succ, List.map_append]
  congr 1
  · apply List.map_congr_left
    intro i hi
    have hi' : i < y.length - 1 := by simpa using hi
    rw [List.getD_eq_getElem?_getD, List.getD_eq_getElem?_getD, List.getElem?_append_left (by omega), List.getElem?_append_left (by omega)]
    rw [List.getD_eq_getElem?_getD, List.getD_eq_getElem?_getD]
  · rw [List.map_singleton]
    congr 2
    · rw [List.getD_eq_getElem?_getD, List.getD_eq_getElem?_getD, List.getElem?_append_left (by omega)]
    · rw [List.getD_eq_getElem?_getD, List.getElem?_append_right (by omega), show y.length - 1 + 1 - y.length = 0 by omega]
      rfl
theorem stpB_snoc {n : Nat} {y : List Int} {x : Int} (hy : 0 < y.length) (h : stpB n y = false) : stpB n (y ++ [x]) = false := by
  unfold stpB at *
  rw [decide_eq_false_iff_not] at *
  rw [stpL_snoc n y x hy]
  exact fun hn => h (nodup_snoc.1 hn).1
theorem stpB_none {n : Nat} {nums : List Int} : ∀ (f : Nat) {y : List Int}, 0 < y.length → stpB n y = false → (ordN nums f y).filter (stpB n) = []
  | 0, y, _, h => by simp [ordN, h]
  | f + 1, y, hy, h => by
    have e : ordN nums (f + 1) y = nums.flatMap fun x => if y.contains x = true then [] else ordN nums f (y ++ [x]) := rfl
    rw [e, List.filter_flatMap]
    rw [List.flatMap_eq_nil_iff]
    intro x _
    split
    · rfl
    · exact stpB_none f (by simp) (stpB_snoc hy h)
/-- How many orders have different steps. -/
def cntS (n f : Nat) (y : List Int) : Nat := ((ordN (seqL 0 n) f y).filter (stpB n)).length
/-- Of those whose next number is one of the first c. -/
def cntP (n f : Nat) (y : List Int) (c : Nat) : Nat := ((ordP (seqL 0 n) f y c).filter (stpB n)).length
theorem cntP_zero (n f : Nat) (y : List Int) : cntP n f y 0 = 0 := rfl
theorem cntP_all (n f : Nat) (y : List Int) : cntP n f y n = cntS n (f + 1) y := by
  have := ordP_all (seqL 0 n) f y
  rw [seqL_length] at this
  unfold cntP cntS
  rw [this]
theorem cntP_succ (n f : Nat) (y : List Int) (c : Nat) (hc : c < n) (hy : 0 < y.length) : cntP n f y (c + 1) = cntP n f y c + (if y.contains (c : Int) = false ∧ stpB n (y ++ [(c : Int)]) = true then cntS n f (y ++ [(c : Int)]) else 0) := by
  unfold cntP
  rw [ordP_succ _ _ _ _ (by rw [seqL_length]; exact hc), List.filter_append, List.length_append, seqL_getD 0 n c hc, Int.zero_add]
  congr 1
  cases h1 : y.contains (c : Int) with
  | true => simp
  | false =>
    cases h2 : stpB n (y ++ [(c : Int)]) with
    | true => rw [if_neg (by simp), if_pos ⟨rfl, rfl⟩]; rfl
    | false => rw [if_neg (by simp), if_neg (by simp), stpB_none f (by simp) h2]; rfl
theorem cntS_zero (n : Nat) (y : List Int) (h : stpB n y = true) : cntS n 0 y = 1 := by simp [cntS, ordN, h]
end Go.Abs
end

section
set_option linter.unusedSimpArgs false
set_option linter.unusedVariables false
namespace Go.Proofs.Ytgkmdfjjlghecaa.A
open Go Go.RowKit Go.Shelf Go.Sort
open Go.Abs (sortedL)

attribute [local go_sem] Oper.semAt_some

/-- What is said of slices.Sort. -/
def SortsAt : Prop :=
  (∀ (blk off cap : Nat) (zs : List Int) (w : World), Holds (Value.int .i64) w blk off zs.toArray → blk < w.heap.size → zs.length < 4611686018427387904 →
    Calls Try.prog 209 #[.slice (some ⟨blk, off, none⟩) zs.length cap] w fun e w' => e = .returned (.tuple #[]) ∧ ∃ n os, w' = grow (putRow (Value.int .i64) (Sort.ahead w n) blk off (sortedL zs).toArray) os) ∧
  (∀ (p : Option Addr) (cap : Nat) (w : World), Calls Try.prog 209 #[.slice p 0 cap] w fun e w' => e = .returned (.tuple #[]) ∧ w' = w)

set_option maxRecDepth 100000 in
set_option maxHeartbeats 2000000 in
theorem collect_in (F : Fence) (n : Nat) (h2 : F.fn 208) (h3 : F.fn 228) (h5 : F.fn 210) (hro : F.round = none) (hn : 4 ≤ n) (Bs : Nat) (sv : Value) (xs : List Int) (hlen : xs.length ≤ maxLen) (hbytes : xs.length * 8 ≤ 140737488351232) (w : World)
    (hBs : Bs < w.heap.size) (hc : w.cell? ⟨Bs, 0, none⟩ = some sv) (hI : IntsAt w.heap.size w sv xs) :
    CallsIn F n Try.prog 208 #[.func (.func 210) #[] #[.pointer (some ⟨Bs, 0, none⟩)]] w fun e W' => ∃ v, e = .returned v ∧ W'.ownsRow w.heap.size 2 1 v xs.length (xs.map (Value.int .i64)) ∧ (v = .slice none 0 0 ↔ xs = []) ∧ Below w.heap.size w W' := by
  have h1 : 1 ≤ n := by omega
  have e3 : ∀ args w, (callFunc 228 args).run Try.prog w = .ok (.enter 228 args) w := enters_of Try.func228 (by kernel_rfl) rfl
  refine callsIn_of_wp Try.func208 rfl h2 ?_ hro
  simp only [Try.ntmps208, List.size_toArray, List.length_cons, List.length_nil, Nat.reduceAdd, Nat.reduceSub, Array.replicate_succ, Array.replicate_zero, List.push_toArray, List.append_toArray, List.nil_append, List.cons_append]
  gi_wp2_with (gi_at_call 228; refine (appendSeq_in F (n - 1) h3 h5 hro (by omega) Bs sv xs hlen hbytes _ hBs hc hI).mono ?_; rintro e w' ⟨v, rfl, hrow, hnil, hb⟩)
  go_ret
  exact ⟨v, rfl, hrow, hnil, hb⟩

set_option maxRecDepth 100000 in
set_option maxHeartbeats 2000000 in
theorem sorted_in (hsort : SortsAt) (Bs : Nat) (sv : Value) (xs : List Int) (hlen : xs.length ≤ maxLen) (hbytes : xs.length * 8 ≤ 140737488351232) (w : World)
    (hBs : Bs < w.heap.size) (hc : w.cell? ⟨Bs, 0, none⟩ = some sv) (hI : IntsAt w.heap.size w sv xs) :
    Calls Try.prog 172 #[.func (.func 210) #[] #[.pointer (some ⟨Bs, 0, none⟩)]] w fun e W' => ∃ v, e = .returned v ∧ W'.ownsRow w.heap.size 2 1 v xs.length ((sortedL xs).map (Value.int .i64)) ∧ (v = .slice none 0 0 ↔ xs = []) ∧ Below w.heap.size w W' := by
  refine (callsIn_wide (n := 8)).1 ?_
  have h1 : 1 ≤ 8 := by omega
  have e2 : ∀ args w, (callFunc 208 args).run Try.prog w = .ok (.enter 208 args) w := enters_of Try.func208 (by kernel_rfl) rfl
  have e9 : ∀ args w, (callFunc 209 args).run Try.prog w = .ok (.enter 209 args) w := enters_of Try.func209 (by kernel_rfl) rfl
  refine callsIn_of_wp Try.func172 rfl trivial ?_ rfl
  simp only [Try.ntmps172, List.size_toArray, List.length_cons, List.length_nil, Nat.reduceAdd, Nat.reduceSub, Array.replicate_succ, Array.replicate_zero, List.push_toArray, List.append_toArray, List.nil_append, List.cons_append]
  have hfK : Fence.wide.fn 208 := trivial
  have hfS : Fence.wide.fn 209 := trivial
  gi_wp2_with (gi_at_call 208; refine (collect_in Fence.wide _ trivial trivial trivial rfl (by omega) Bs sv xs hlen hbytes _ hBs hc hI).mono ?_; rintro e W ⟨v, rfl, hrow, hnil, hb⟩)
  rcases hrow.2 with ⟨rfl, hz⟩ | ⟨gb, cap, cur, rfl, hbase, hgb, r1, r2, r3, r4⟩
  · have hss : xs = [] := List.eq_nil_of_length_eq_zero hz
    subst hss
    have cN := callsIn_wide (n := 7).2 (hsort.2 none 0 W)
    gi_wp2_with (gi_at_call 209; refine cN.mono ?_; rintro e w' ⟨rfl, rfl⟩)
    go_ret
    exact ⟨.slice none 0 0, rfl, by simpa [sortedL] using hrow, by simp, hb⟩
  · have hH : Holds (Value.int .i64) W gb 0 xs.toArray := holds_of_blockI hgb (by simpa using r4)
    have hgl : gb < W.heap.size := (Array.getElem?_eq_some_iff.1 hgb).1
    have hsz : xs.length < 4611686018427387904 := by omega
    have cS := callsIn_wide (n := 7).2 (hsort.1 gb 0 cap xs W hH hgl hsz)
    gi_wp2_with (gi_at_call 209; refine cS.mono ?_; rintro e w' ⟨rfl, nn, os, rfl⟩)
    go_ret
    exact ⟨_, rfl, ownsRow_sortedI (by simp [sortedL]) hbase hgb r1 r2 r3, hnil, hb.grown (grownBy_sortedI _) hb.size (fun j hj => by cases hj; exact hbase)⟩
end Go.Proofs.Ytgkmdfjjlghecaa.A
end

section
set_option linter.unusedSimpArgs false
set_option linter.unusedVariables false
namespace Go.Abs
open Go Go.RowKit

section
variable {base : Nat} {ρ : Nat → Nat} {H : AH} {w w' : World}

theorem bsz_lt {b k : Nat} (h : bsz w b = some k) : b < w.heap.size := by
  rcases Nat.lt_or_ge b w.heap.size with h' | h'
  · exact h'
  · simp [bsz, Array.getElem?_eq_none h'] at h
theorem bsz_below (hB : Below w.heap.size w w') {b k : Nat} (h : bsz w b = some k) : bsz w' b = some k := by
  have hb := bsz_lt h
  unfold bsz at *
  rw [hB.block b hb]; exact h

theorem Rel.below (R : Rel base ρ H w) (hB : Below w.heap.size w w') : Rel base ρ H w' ∧ Ext base ρ H.next w ρ H.next w' := by
  have E : Ext base ρ H.next w ρ H.next w' := ⟨Nat.le_refl _, fun _ _ => rfl, hB.mono R.sz, fun b k h => bsz_below hB h⟩
  refine ⟨⟨R.scope, fun i r h hb => ⟨(R.ro i r h hb).1, fun j v hv ho => ?_⟩, fun i r h hb => ?_, R.inj, Nat.le_trans R.sz hB.size⟩, E⟩
  · obtain ⟨v', a, b⟩ := (R.ro i r h hb).2 j v hv ho
    exact ⟨v', (hB.cell (p := ⟨ρ i, j, none⟩) (World.block_lt_of_cell? w _ a)).trans a, b.ext E⟩
  · obtain ⟨a, cs, b, c⟩ := R.rwr i r h hb
    exact ⟨a, cs, (hB.block _ (R.lt_heap h hb)).trans b, c.ext E⟩

/-- A row that a callee has laid. -/
theorem Rel.newRow (R : Rel base ρ H w) (hB : Below w.heap.size w w') {g : Nat} (hg : w.heap.size ≤ g) {ty : TypeId} {cs : Array Value} (hcs : w'.heap[g]? = some (.cells cs ty (0, 0))) {xs : List Value} (hx : L1 ρ H.next w xs (cs.toList.take xs.length)) :
    Rel base (ren ρ H.next g) (H.push ⟨ty, true, xs⟩) w' ∧ Ext base ρ H.next w (ren ρ H.next g) (H.push ⟨ty, true, xs⟩).next w' := by
  have old : ∀ i, i < H.next → ren ρ H.next g i = ρ i := fun i hi => by unfold ren; rw [if_neg (by omega)]
  have new : ren ρ H.next g H.next = g := by unfold ren; rw [if_pos rfl]
  have E : Ext base ρ H.next w (ren ρ H.next g) (H.next + 1) w' := ⟨Nat.le_succ _, old, hB.mono R.sz, fun b k h => bsz_below hB h⟩
  obtain ⟨R', _⟩ := R.below hB
  have hsz := R.sz
  refine ⟨⟨?_, ?_, ?_, ?_, R'.sz⟩, E⟩
  · intro i r hr
    rw [AH.push_row] at hr
    rw [AH.push_next]
    split at hr
    · omega
    · have := R.scope i r hr; omega
  · intro i r hr hb
    rw [AH.push_row] at hr
    split at hr
    · simp at hr; subst hr; simp at hb
    · have hi := R.scope i r hr
      rw [old i hi]
      obtain ⟨h1, h2⟩ := R.ro i r hr hb
      refine ⟨h1, fun j v hv ho => ?_⟩
      obtain ⟨v', a, b⟩ := h2 j v hv ho
      exact ⟨v', (hB.cell (p := ⟨ρ i, j, none⟩) (World.block_lt_of_cell? w _ a)).trans a, b.ext E⟩
  · intro i r hr hb
    rw [AH.push_row] at hr
    split at hr
    · rename_i e; subst e
      simp at hr; subst hr
      rw [new]
      exact ⟨by omega, cs, hcs, hx.ext E⟩
    · have hi := R.scope i r hr
      obtain ⟨a, cs', b, c⟩ := R.rwr i r hr hb
      rw [old i hi]
      exact ⟨a, cs', (hB.block _ (R.lt_heap hr hb)).trans b, c.ext E⟩
  · intro i j r s hr hs hb hc he
    rw [AH.push_row] at hr hs
    split at hr <;> split at hs
    · rename_i e1 e2; rw [e1, e2]
    · rename_i e1 e2
      have hj := R.scope j s hs
      rw [e1, new, old j hj] at he
      have := R.lt_heap hs hc
      omega
    · rename_i e1 e2
      have hi := R.scope i r hr
      rw [e2, new, old i hi] at he
      have := R.lt_heap hr hb
      omega
    · have hi := R.scope i r hr
      have hj := R.scope j s hs
      rw [old i hi, old j hj] at he
      exact R.inj i j r s hr hs hb hc he

/-- A row of ours that a callee has written. -/
theorem Rel.turned (R : Rel base ρ H w) {i : Nat} {r : Row} (hr : H.row i = some r) (hw : r.rw = true) (hg : w.grownBy w' (some (ρ i))) {cs cs' : Array Value} (h0 : w.heap[ρ i]? = some (.cells cs r.ty (0, 0))) (h1 : w'.heap[ρ i]? = some (.cells cs' r.ty (0, 0))) (hs : cs'.size = cs.size)
    {xs : List Value} (hx : L1 ρ H.next w xs (cs'.toList.take xs.length)) :
    Rel base ρ (H.setCells i xs) w' ∧ Ext base ρ H.next w ρ (H.setCells i xs).next w' := by
  have hbi := (R.rwr i r hr hw).1
  have hB : Below base w w' := ⟨hg.os, hg.tape, hg.output, hg.size, fun k hk => hg.block k (by have := R.sz; omega) (fun e => by have := Option.some.inj e; omega)⟩
  have hst : ∀ b k, bsz w b = some k → bsz w' b = some k := by
    intro b k h
    by_cases e : b = ρ i
    · subst e
      simp only [bsz, h0] at h
      simp only [bsz, h1]
      rw [hs]; exact h
    · have hb := bsz_lt h
      unfold bsz at *
      rw [hg.block b hb (fun e2 => e (Option.some.inj e2))]; exact h
  have E : Ext base ρ H.next w ρ H.next w' := ⟨Nat.le_refl _, fun _ _ => rfl, hB, hst⟩
  refine ⟨⟨?_, ?_, ?_, ?_, Nat.le_trans R.sz hg.size⟩, E⟩
  · intro j s hj
    rw [AH.setCells_row] at hj
    rw [AH.setCells_next]
    split at hj
    · rename_i e; rw [e]; exact R.scope i r hr
    · exact R.scope j s hj
  · intro j s hj hb
    rw [AH.setCells_row] at hj
    split at hj
    · rw [hr] at hj; simp at hj; subst hj; rw [hw] at hb; cases hb
    · obtain ⟨a1, a2⟩ := R.ro j s hj hb
      refine ⟨a1, fun k v hv ho => ?_⟩
      obtain ⟨v', a, b⟩ := a2 k v hv ho
      exact ⟨v', (hB.cell (p := ⟨ρ j, k, none⟩) a1).trans a, b.ext E⟩
  · intro j s hj hb
    rw [AH.setCells_row] at hj
    split at hj
    · rename_i e; subst e
      rw [hr] at hj; simp at hj; subst hj
      exact ⟨hbi, cs', h1, hx.ext E⟩
    · rename_i e
      obtain ⟨a, c0, b, c⟩ := R.rwr j s hj hb
      exact ⟨a, c0, (hg.block _ (R.lt_heap hj hb) (fun e2 => e (R.inj j i s r hj hr hb hw (Option.some.inj e2)))).trans b, c.ext E⟩
  · intro j k s q hj hk hb hc he
    rw [AH.setCells_row] at hj hk
    split at hj <;> split at hk
    · rename_i e1 e2; rw [e1, e2]
    · rename_i e1 e2; subst e1
      exact R.inj _ k r q hr hk hw hc he
    · rename_i e1 e2; subst e2
      exact R.inj j _ s r hj hr hb hw he
    · exact R.inj j k s q hj hk hb hc he

/-- The integers that a slice reads, in the world. -/
theorem Rd.cellsAt (R : Rel base ρ H w) {v v' : Value} {n : Nat} {l : List Int} (h : Rd 1 H v n l) (hv : VR ρ H.next w v v') :
    (∃ a c, v' = .slice a 0 c ∧ l = []) ∨ ∃ b o c, v' = .slice (some ⟨b, o, none⟩) l.length c ∧ b < w.heap.size ∧ ∀ j, j < l.length → w.cell? ⟨b, o + j, none⟩ = some (.int .i64 (l[j]?.getD 0)) := by
  obtain ⟨hl, hc⟩ := h
  rw [Nat.mul_one] at hl
  by_cases h0 : n = 0
  · left
    have hl0 : l = [] := List.eq_nil_of_length_eq_zero (by omega)
    subst h0
    have key : ∃ a c, v = .slice a 0 c := by
      rcases hc with ⟨_, a, c, rfl, _⟩ | ⟨i, o, u, c, r, rfl, _⟩
      · exact ⟨_, _, rfl⟩
      · exact ⟨_, _, rfl⟩
    obtain ⟨a, c, rfl⟩ := key
    cases hv with
    | one h =>
      cases h with
      | scal v hs => exact ⟨_, _, rfl, hl0⟩
      | sle i o n c hi => exact ⟨_, _, rfl, hl0⟩
      | slu i o n c e a c' hi hn hr => exact ⟨_, _, rfl, hl0⟩
  · right
    rcases hc with ⟨h1, _⟩ | ⟨i, o, u, c, r, rfl, hr, hlen, hseg⟩
    · exact absurd h1 h0
    · rw [Nat.mul_one] at hlen hseg
      have hok : r.ok ((r.cells.drop o).take n) := .inr fun x hx => by
        have hs : (r.cells.drop o).take n = ints l := hseg
        rw [hs] at hx
        obtain ⟨y, _, rfl⟩ := List.mem_map.1 hx
        rfl
      obtain ⟨ys, hys, hcell, hL⟩ := R.cells hr hlen hok
      have hs : (r.cells.drop o).take n = ints l := hseg
      rw [hs] at hL
      have hcells : ∀ j, j < l.length → w.cell? ⟨ρ i, o + j, none⟩ = some (.int .i64 (l[j]?.getD 0)) := by
        intro j hj
        have hx : (ints l)[j]? = some (.int .i64 (l.getD j 0)) := ints_get? l j hj
        obtain ⟨y, hy, hv1⟩ := hL.get hx
        have e := VR.int (.one hv1)
        rw [hcell j y hy, e, List.getD_eq_getElem?_getD]
      have hlt : ρ i < w.heap.size := World.block_lt_of_cell? w _ (hcells 0 (by omega))
      rw [hl]
      cases hv with
      | one h =>
        cases h with
        | scal v hs => simp [Abs.scal] at hs
        | sle i o n c hi => exact ⟨ρ i, o, c, rfl, hlt, fun j hj => hcells j (by omega)⟩
        | slu i o n c e a c' hi hn hr =>
          rcases hr with ⟨rfl, _⟩ | ⟨h1, _⟩
          · exact ⟨ρ i, o, c', rfl, hlt, fun j hj => hcells j (by omega)⟩
          · exact absurd h1 h0

/-- A new slice of integers that a callee has laid. -/
theorem Rel.newInts (R : Rel base ρ H w) (hB : Below w.heap.size w w') {ty : TypeId} {v' : Value} {l : List Int} (h : w'.ownsRow w.heap.size ty 1 v' l.length (l.map (Value.int .i64))) :
    ∃ v H' ρ', Up H.next H H' ∧ Fr 1 ty H.next H'.next H' v l.length l ∧ Rel base ρ' H' w' ∧ VR ρ' H'.next w' v v' ∧ Ext base ρ H.next w ρ' H'.next w' := by
  rcases h.2 with ⟨rfl, h0⟩ | ⟨g, cap, cur, rfl, hg, hcs, h1, h2, h3, h4⟩
  · obtain ⟨R', E⟩ := R.below hB
    exact ⟨_, H, ρ, Up.refl _ _, ⟨by omega, .inl ⟨h0, rfl⟩⟩, R', .scal rfl, E⟩
  · rw [Nat.mul_one] at h4 h3
    have hx : L1 ρ H.next w (ints l) (cur.toList.take (ints l).length) := by
      rw [ints_length, h4]
      exact L1.self fun v hv => by obtain ⟨y, _, rfl⟩ := List.mem_map.1 hv; rfl
    obtain ⟨R', E⟩ := R.newRow hB hg hcs hx
    have new : ren ρ H.next g H.next = g := by unfold ren; rw [if_pos rfl]
    have ht : VR (ren ρ H.next g) (H.push ⟨ty, true, ints l⟩).next w' (.slice (some ⟨H.next, 0, some 1⟩) l.length l.length) (.slice (some ⟨g, 0, none⟩) l.length cap) := by
      refine .one (.slu _ _ _ _ _ _ _ (Nat.lt_succ_self _) h1 (.inl ⟨by rw [new], ?_, h2⟩))
      rw [new]
      simp [bsz, hcs, h3]
    exact ⟨_, _, _, (Up.refl _ H).push (Nat.le_refl _) _, ⟨by omega, .inr ⟨H.next, Nat.le_refl _, Nat.lt_succ_self _, rfl, by rw [AH.push_row, if_pos rfl]⟩⟩, R', ht, E⟩
end
end Go.Abs
end

section
set_option linter.unusedSimpArgs false
set_option linter.unusedVariables false
set_option maxRecDepth 100000
set_option maxHeartbeats 2000000
namespace Go.Proofs.Ytgkmdfjjlghecaa.A
open Go Go.Abs Go.RowKit Go.Shelf Go.Sort

def sortRen : Go.Shelf.Ren := ⟨fun | 5 => 209 | 8 => 212 | 7 => 229 | 19 => 238 | 20 => 239 | 10 => 246 | 11 => 247 | 12 => 248 | 13 => 249 | 14 => 250 | 15 => 251 | 16 => 252 | 17 => 253 | 18 => 254 | 30 => 264 | 31 => 256 | 32 => 257 | 33 => 265 | 34 => 266 | 35 => 207 | 40 => 269 | n => n, fun | 23 => 38 | 25 => 2 | 3 => 3 | 32 => 183 | 22 => 38 | 0 => 0 | 44 => 205 | 46 => 159 | 4 => 4 | 36 => 198 | 35 => 197 | 41 => 202 | 5 => 5 | 9 => 9 | 53 => 217 | 57 => 221 | 63 => 227 | 64 => 228 | n => n, fun | n => n⟩
theorem sortLy : Go.Proofs.SlLaysM.n5 Try.prog sortRen := {
  mixed := by kernel_rfl
  f5 := ⟨Try.f209.name, by decide, Try.func209.trans (congrArg some (by kernel_rfl))⟩
  f7 := ⟨Try.f229.name, by decide, Try.func229.trans (congrArg some (by kernel_rfl))⟩
  f8 := Try.func212.trans (congrArg some (by kernel_rfl))
  f10 := ⟨Try.f246.name, by decide, Try.func246.trans (congrArg some (by kernel_rfl))⟩
  f11 := ⟨Try.f247.name, by decide, Try.func247.trans (congrArg some (by kernel_rfl))⟩
  f12 := ⟨Try.f248.name, by decide, Try.func248.trans (congrArg some (by kernel_rfl))⟩
  f13 := ⟨Try.f249.name, by decide, Try.func249.trans (congrArg some (by kernel_rfl))⟩
  f14 := ⟨Try.f250.name, by decide, Try.func250.trans (congrArg some (by kernel_rfl))⟩
  f15 := ⟨Try.f251.name, by decide, Try.func251.trans (congrArg some (by kernel_rfl))⟩
  f16 := ⟨Try.f252.name, by decide, Try.func252.trans (congrArg some (by kernel_rfl))⟩
  f17 := ⟨Try.f253.name, by decide, Try.func253.trans (congrArg some (by kernel_rfl))⟩
  f18 := ⟨Try.f254.name, by decide, Try.func254.trans (congrArg some (by kernel_rfl))⟩
  f19 := Try.func238.trans (congrArg some (by kernel_rfl))
  f20 := Try.func239.trans (congrArg some (by kernel_rfl))
  f30 := ⟨Try.f264.name, by decide, Try.func264.trans (congrArg some (by kernel_rfl))⟩
  f31 := Try.func256.trans (congrArg some (by kernel_rfl))
  f32 := Try.func257.trans (congrArg some (by kernel_rfl))
  f33 := ⟨Try.f265.name, by decide, Try.func265.trans (congrArg some (by kernel_rfl))⟩
  f34 := ⟨Try.f266.name, by decide, Try.func266.trans (congrArg some (by kernel_rfl))⟩
  f35 := ⟨Try.f207.name, by decide, Try.func207.trans (congrArg some (by kernel_rfl))⟩
  f40 := ⟨Try.f269.name, by decide, Try.func269.trans (congrArg some (by kernel_rfl))⟩
  t0 := Try.underlying0
  a0 := Try.isAgg0
  z0 := Try.sizeOf0
  v0 := Try.zeroValue0
  t3 := Try.underlying3
  a3 := Try.isAgg3
  z3 := Try.sizeOf3
  v3 := Try.zeroValue3
  t4 := Try.underlying4
  a4 := Try.isAgg4
  z4 := Try.sizeOf4
  v4 := Try.zeroValue4
  t5 := Try.underlying5
  a5 := Try.isAgg5
  z5 := Try.sizeOf5
  v5 := Try.zeroValue5
  t9 := Try.underlying9
  a9 := Try.isAgg9
  z9 := Try.sizeOf9
  v9 := Try.zeroValue9
  t22 := Try.underlying38
  a22 := Try.isAgg38
  z22 := Try.sizeOf38
  v22 := Try.zeroValue38
  t23 := Try.underlying38
  a23 := Try.isAgg38
  z23 := Try.sizeOf38
  v23 := Try.zeroValue38
  t25 := Try.underlying2
  a25 := Try.isAgg2
  z25 := Try.sizeOf2
  v25 := Try.zeroValue2
  t32 := Try.underlying183
  a32 := Try.isAgg183
  z32 := Try.sizeOf183
  v32 := Try.zeroValue183
  t35 := Try.underlying197
  a35 := Try.isAgg197
  z35 := Try.sizeOf197
  v35 := Try.zeroValue197
  t36 := Try.underlying198
  a36 := Try.isAgg198
  z36 := Try.sizeOf198
  v36 := Try.zeroValue198
  t41 := Try.underlying202
  a41 := Try.isAgg202
  z41 := Try.sizeOf202
  v41 := Try.zeroValue202
  t44 := Try.underlying205
  a44 := Try.isAgg205
  z44 := Try.sizeOf205
  v44 := Try.zeroValue205
  t46 := Try.underlying159
  a46 := Try.isAgg159
  z46 := Try.sizeOf159
  v46 := Try.zeroValue159
  t53 := Try.underlying217
  a53 := Try.isAgg217
  z53 := Try.sizeOf217
  v53 := Try.zeroValue217
  t57 := Try.underlying221
  a57 := Try.isAgg221
  z57 := Try.sizeOf221
  v57 := Try.zeroValue221
  t63 := Try.underlying227
  a63 := Try.isAgg227
  z63 := Try.sizeOf227
  v63 := Try.zeroValue227
  t64 := Try.underlying228
  a64 := Try.isAgg228
  z64 := Try.sizeOf228
  v64 := Try.zeroValue228 }

theorem sortsAt : SortsAt := ⟨fun blk off cap zs w hH hb hs => AnyM.slices_Sort_int sortLy blk off cap zs w hH hb hs, fun p cap w => AnyM.slices_Sort_int_none sortLy p cap w⟩

theorem sorted_c (b : Nat) (v : Value) (y : List Int) (H : AH) (hb : H.row b = some ⟨38, true, [v]⟩) (hv : Rd 1 H v y.length y) (hy : y.length ≤ 4294967296) :
    ACalls Try.prog 172 [.func (.func 210) #[] #[.pointer (some ⟨b, 0, none⟩)]] H (fun u H' => Up H.next H H' ∧ Fr 1 2 H.next H'.next H' u y.length (sortedL y)) := by
  refine ⟨by kernel_rfl, fun base ρ w args' R hL => ?_⟩
  obtain ⟨hl, hx⟩ := hL
  match args', hl, hx with
  | [a], _, hx =>
    obtain ⟨_, ys, e1, e2, e3⟩ := VR.func (hx 0 _ _ rfl rfl)
    have hp : ys = #[.pointer (some ⟨ρ b, 0, none⟩)] := by
      rcases ys with ⟨zs⟩
      match zs, e2, e3 with
      | [z], _, e3 =>
        have := VR.ptr (.one (e3 0 _ _ rfl rfl))
        have h : z = .pointer (some ⟨ρ b, 0, none⟩) := this.2.2
        subst h; rfl
    rw [e1, hp]
    obtain ⟨sv, hc, hsv⟩ := R.cell (i := b) (j := 0) hb rfl (.inl rfl)
    have hI : IntsAt w.heap.size w sv y := by
      rcases Rd.cellsAt R hv (.one hsv) with ⟨a, c, h1, h2⟩ | ⟨b', o, c, h1, h2, h3⟩
      · exact .inl ⟨a, c, h1, h2⟩
      · exact .inr ⟨b', o, c, h1, h2, h3⟩
    have hsl : (sortedL y).length = y.length := by simp [sortedL]
    refine (sorted_in sortsAt (ρ b) sv y (Nat.le_trans hy (by decide)) (by omega) w (World.block_lt_of_cell? w _ hc) hc hI).mono ?_
    rintro e w' ⟨v', rfl, hrow, _, hB⟩
    rw [← hsl] at hrow ⊢
    obtain ⟨u, H', ρ', h1, h2, h3, h4, h5⟩ := R.newInts hB hrow
    exact ⟨v', u, H', ρ', rfl, ⟨h1, h2⟩, h3, h4, h5⟩
end Go.Proofs.Ytgkmdfjjlghecaa.A
end

section
set_option linter.unusedSimpArgs false
set_option linter.unusedVariables false
namespace Go.Abs

/-- One row of the square, its first c numbers written. -/
def sqE (n i : Nat) (y : List Int) (j : Nat) : Int := Int.tmod ((i : Int) + y.getD j 0) n
def sqR (n : Nat) (y : List Int) (i c : Nat) : List Int := (List.range n).map fun j => if j < c then sqE n i y j else 0
/-- The first i rows, and of the next one the first c numbers. -/
def sqM (n : Nat) (y : List Int) (i c : Nat) : List (List Int) := (List.range n).map fun a => if a < i then sqR n y a n else if a = i then sqR n y a c else List.replicate n 0
theorem sqR_length (n : Nat) (y : List Int) (i c : Nat) : (sqR n y i c).length = n := by simp [sqR]
theorem sqM_length (n : Nat) (y : List Int) (i c : Nat) : (sqM n y i c).length = n := by simp [sqM]
theorem sqR_zero (n : Nat) (y : List Int) (i : Nat) : sqR n y i 0 = List.replicate n 0 := by
  unfold sqR
  exact List.eq_replicate_iff.2 ⟨by simp, by intro b hb; obtain ⟨a, _, rfl⟩ := List.mem_map.1 hb; rfl⟩
theorem sqM_zero (n : Nat) (y : List Int) : sqM n y 0 0 = List.replicate n (List.replicate n 0) := by
  unfold sqM
  refine List.eq_replicate_iff.2 ⟨by simp, ?_⟩
  intro b hb
  obtain ⟨a, _, rfl⟩ := List.mem_map.1 hb
  rw [if_neg (by omega)]
  split
  · exact sqR_zero n y a
  · rfl
theorem sqM_next (n : Nat) (y : List Int) (i : Nat) : sqM n y i n = sqM n y (i + 1) 0 := by
  unfold sqM
  apply List.map_congr_left
  intro a _
  by_cases h1 : a < i
  · rw [if_pos h1, if_pos (by omega)]
  · rw [if_neg h1]
    by_cases h2 : a = i
    · rw [if_pos h2, if_pos (by omega)]
    · rw [if_neg h2, if_neg (by omega)]
      split
      · exact (sqR_zero n y a).symm
      · rfl
theorem sqM_all (n : Nat) (y : List Int) : sqM n y n 0 = (List.range n).map fun a => sqR n y a n := by
  unfold sqM
  apply List.map_congr_left
  intro a ha
  rw [if_pos (by simpa using ha)]
theorem sqM_getD (n : Nat) (y : List Int) (i c : Nat) (hi : i < n) : (sqM n y i c).getD i [] = sqR n y i c := by
  unfold sqM
  rw [List.getD_eq_getElem?_getD, List.getElem?_map, List.getElem?_range hi]
  simp
theorem sqR_set (n : Nat) (y : List Int) (i c : Nat) (hc : c < n) : (sqR n y i c).set c (sqE n i y c) = sqR n y i (c + 1) := by
  apply List.ext_getElem?
  intro j
  rw [List.getElem?_set, sqR_length]
  unfold sqR
  rw [List.getElem?_map, List.getElem?_map]
  by_cases hj : j < n
  · rw [List.getElem?_range hj]
    simp only [Option.map_some]
    by_cases e : c = j
    · subst e; rw [if_pos rfl, if_pos hc, if_pos (by omega)]
    · rw [if_neg e]
      by_cases h1 : j < c
      · rw [if_pos h1, if_pos (by omega)]
      · rw [if_neg h1, if_neg (by omega)]
  · rw [if_neg (by omega), List.getElem?_eq_none (by simpa using hj)]; rfl
theorem sqM_set (n : Nat) (y : List Int) (i c : Nat) (hi : i < n) (hc : c < n) : (sqM n y i c).set i (sqR n y i (c + 1)) = sqM n y i (c + 1) := by
  apply List.ext_getElem?
  intro j
  rw [List.getElem?_set, sqM_length]
  unfold sqM
  rw [List.getElem?_map, List.getElem?_map]
  by_cases hj : j < n
  · rw [List.getElem?_range hj]
    simp only [Option.map_some]
    by_cases e : i = j
    · subst e; rw [if_pos rfl, if_pos hi, if_neg (by omega), if_pos rfl]
    · rw [if_neg e]
      by_cases h1 : j < i
      · rw [if_pos h1, if_pos h1]
      · rw [if_neg h1, if_neg h1, if_neg (by omega), if_neg (by omega)]
  · rw [if_neg (by omega), List.getElem?_eq_none (by simpa using hj)]; rfl
/-- The square of a list, and its beginnings as rows are laid one behind the other. -/
def sqA (n : Nat) (y : List Int) (a : Nat) : List (List Int) := (List.range a).map fun i => sqR n y i n
def sqP (n : Nat) (y : List Int) (i c : Nat) : List Int := (List.range c).map fun j => sqE n i y j
theorem sqA_succ (n : Nat) (y : List Int) (a : Nat) : sqA n y (a + 1) = sqA n y a ++ [sqR n y a n] := by simp [sqA, List.range_succ]
theorem sqA_length (n : Nat) (y : List Int) (a : Nat) : (sqA n y a).length = a := by simp [sqA]
theorem sqP_succ (n : Nat) (y : List Int) (i c : Nat) : sqP n y i (c + 1) = sqP n y i c ++ [sqE n i y c] := by simp [sqP, List.range_succ]
theorem sqP_length (n : Nat) (y : List Int) (i c : Nat) : (sqP n y i c).length = c := by simp [sqP]
theorem sqP_all (n : Nat) (y : List Int) (i : Nat) : sqP n y i n = sqR n y i n := by
  unfold sqP sqR
  apply List.map_congr_left
  intro a ha
  rw [if_pos (by simpa using ha)]
theorem sqE_range {n i : Nat} {y : List Int} {j : Nat} (hn : 0 < n) (h : 0 ≤ y.getD j 0) : 0 ≤ sqE n i y j ∧ sqE n i y j < n := by
  unfold sqE
  rw [Int.tmod_eq_emod_of_nonneg (by omega)]
  exact ⟨Int.emod_nonneg _ (by omega), Int.emod_lt_of_pos _ (by omega)⟩
/-- A list of the numbers below another one, each once, not too long. -/
def listB (y : List Int) : Bool := decide (1 ≤ y.length ∧ y.length ≤ 14) && ordB y.length y
theorem listB_at {y : List Int} (h : listB y = true) : (1 ≤ y.length ∧ y.length ≤ 14) ∧ (∀ x ∈ y, 0 ≤ x ∧ x < y.length) ∧ y.Nodup := by
  unfold listB at h
  rw [Bool.and_eq_true, decide_eq_true_iff, ordB_iff] at h
  exact ⟨h.1, h.2.2⟩
theorem getD_in {y : List Int} {n : Nat} (h : ∀ x ∈ y, 0 ≤ x ∧ x < n) {j : Nat} (hj : j < y.length) : 0 ≤ y.getD j 0 ∧ y.getD j 0 < n :=
  h _ (by rw [List.getD_eq_getElem?_getD, List.getElem?_eq_getElem hj]; exact List.getElem_mem _)
/-- What SquareOfList answers. -/
def sqL (y : List Int) : List (List Int) := if listB y = true then sqA y.length y y.length else []
def sqC (y : List Int) : Int := if listB y = true then 0 else 2
theorem sqL_size (y : List Int) : (sqL y).length ≤ 14 ∧ True ∧ ∀ r ∈ sqL y, r.length ≤ 14 := by
  unfold sqL
  split
  · rename_i h
    have := (listB_at h).1
    rw [sqA_length]
    refine ⟨by omega, trivial, fun r hr => ?_⟩
    obtain ⟨a, _, rfl⟩ := List.mem_map.1 hr
    rw [sqR_length]; omega
  · exact ⟨by simp, trivial, by simp⟩
end Go.Abs
end

section
set_option linter.unusedSimpArgs false
set_option linter.unusedVariables false
namespace Go.Abs
open Go Go.RowKit

def bools (l : List Bool) : List Value := l.map .bool
theorem bools_length (l : List Bool) : (bools l).length = l.length := by simp [bools]
theorem bools_get? (l : List Bool) (i : Nat) (h : i < l.length) : (bools l)[i]? = some (.bool (l.getD i false)) := by simp [bools, h]
theorem bools_set (l : List Bool) (i : Nat) (x : Bool) : (bools l).set i (.bool x) = bools (l.set i x) := by simp [bools, List.map_set]
theorem zeros_bools (n : Nat) : zeros n [.bool false] = bools (List.replicate n false) := by
  unfold zeros bools
  induction n with
  | zero => rfl
  | succ n ih => rw [List.replicate_succ, List.flatten_cons, ih, List.replicate_succ]; rfl
theorem metL_get? (n : Nat) (y : List Int) (x : Int) (h : 0 ≤ x ∧ x < n) : (bools (metL n y))[x.toNat]? = some (.bool (y.contains x)) := by
  rw [bools_get? _ _ (by rw [metL_length]; omega), metL_getD n y x h]
theorem metL_put (n : Nat) (y : List Int) (x : Int) (h : 0 ≤ x ∧ x < n) : (bools (metL n y)).set x.toNat (.bool true) = bools (metL n (y ++ [x])) := by
  rw [bools_set, metL_set n y x h]
end Go.Abs
end

section
set_option linter.unusedSimpArgs false
set_option linter.unusedVariables false
set_option maxRecDepth 100000
set_option maxHeartbeats 2000000
namespace Go.Proofs.Ytgkmdfjjlghecaa.A
open Go Go.Abs Go.RowKit

theorem size_c (v : Value) (y : List Int) (H : AH) (hv : Rd 1 H v y.length y) (hy : y.length ≤ 4294967296) : ACalls Try.prog 129 [v] H (is (.int .i64 y.length) H) := by
  refine acalls_of_awp [.tmp 2] Try.func129 (by kernel_rfl) rfl rfl (Nat.le_of_ble_eq_true rfl) (by kernel_rfl) ?_
  try simp (disch := first | omega | (simp only [ints_length, List.length_replicate, List.length_set, sortedL_length, bools_length, metL_length]; done) | (simp only [ints_length, List.length_replicate, List.length_set, sortedL_length, bools_length, metL_length]; omega)) only [Sall,evalOp,init,binE,binI,unE,convE,okNil,builtE,gv,TD.isAgg,resV,↓reduceIte,Nat.reduceEqDiff,reduceCtorEq,Nat.reduceAdd,Nat.reduceMul,Nat.reduceLeDiff,quietOp,blindOp,Int.reduceEq,Int.reduceLT,Int.reduceLE,Nat.reduceLT,ti2,ti3,ti4,ti45,ti46,ti38,ti25,ti30,ti22,ti32,ti24,ti95,ti172,ti169,ti165,ti166,ti65,ti143,ti87, builtE, hv.len, is]

theorem evo_nilF (t : T) : evo t (.const .nilFunc) = some .nilFunc := (rfl)
theorem values_c (v : Value) (H : AH) (ho : v.oneCell' = true) :
    ACalls Try.prog 173 [v] H (is (.func (.func 210) #[] #[.pointer (some ⟨H.next, 0, none⟩)]) (H.push ⟨38, true, [v]⟩)) := by
  refine acalls_of_awp [.tmp 2] Try.func173 (by kernel_rfl) rfl rfl (Nat.le_of_ble_eq_true rfl) (by kernel_rfl) ?_
  try simp (disch := first | omega | (simp only [ints_length, List.length_replicate, List.length_set, sortedL_length, bools_length, metL_length]; done) | (simp only [ints_length, List.length_replicate, List.length_set, sortedL_length, bools_length, metL_length]; omega)) only [Sall,evalOp,init,binE,binI,unE,convE,okNil,builtE,gv,TD.isAgg,resV,↓reduceIte,Nat.reduceEqDiff,reduceCtorEq,Nat.reduceAdd,Nat.reduceMul,Nat.reduceLeDiff,quietOp,blindOp,Int.reduceEq,Int.reduceLT,Int.reduceLE,Nat.reduceLT,ti2,ti3,ti4,ti45,ti46,ti38,ti25,ti30,ti22,ti32,ti24,ti95,ti172,ti169,ti165,ti166,ti65,ti143,ti87, ho, asCells_one ho, evo_nilF, List.mem_cons, List.not_mem_nil, or_false, forall_eq_or_imp, forall_eq, Array.size_empty, is]

theorem isOrder_c (n : Nat) (v : Value) (y : List Int) (H : AH) (hv : Rd 1 H v y.length y) (hy : y.length ≤ 4294967296) :
    ACalls Try.prog 190 [v, .int .i64 n] H (is (.bool (ordB n y)) H) := by
  refine acalls_up rfl (ACalls.wf (by kernel_rfl) fun hs => acalls_of_awp [.tmp 4] Try.func190 (by kernel_rfl) rfl rfl (Nat.le_of_ble_eq_true rfl) (by kernel_rfl) ?_)
  try simp (disch := first | omega | (simp only [ints_length, List.length_replicate, List.length_set, sortedL_length, bools_length, metL_length]; done) | (simp only [ints_length, List.length_replicate, List.length_set, sortedL_length, bools_length, metL_length]; omega)) only [Sall,evalOp,init,binE,binI,unE,convE,okNil,builtE,gv,TD.isAgg,resV,↓reduceIte,Nat.reduceEqDiff,reduceCtorEq,Nat.reduceAdd,Nat.reduceMul,Nat.reduceLeDiff,quietOp,blindOp,Int.reduceEq,Int.reduceLT,Int.reduceLE,Nat.reduceLT,ti2,ti3,ti4,ti45,ti46,ti38,ti25,ti30,ti22,ti32,ti24,ti95,ti172,ti169,ti165,ti166,ti65,ti143,ti87, true_and]
  refine (values_c v H hv.one).to ?_
  try simp (disch := first | omega | (simp only [ints_length, List.length_replicate, List.length_set, sortedL_length, bools_length, metL_length]; done) | (simp only [ints_length, List.length_replicate, List.length_set, sortedL_length, bools_length, metL_length]; omega)) only [Sall,evalOp,init,binE,binI,unE,convE,okNil,builtE,gv,TD.isAgg,resV,↓reduceIte,Nat.reduceEqDiff,reduceCtorEq,Nat.reduceAdd,Nat.reduceMul,Nat.reduceLeDiff,quietOp,blindOp,Int.reduceEq,Int.reduceLT,Int.reduceLE,Nat.reduceLT,ti2,ti3,ti4,ti45,ti46,ti38,ti25,ti30,ti22,ti32,ti24,ti95,ti172,ti169,ti165,ti166,ti65,ti143,ti87, true_and]
  have up : Up H.next H (H.push ⟨38, true, [v]⟩) := (Up.refl _ H).push (Nat.le_refl _) _
  have e1 : (H.push ⟨38, true, [v]⟩).row H.next = some ⟨38, true, [v]⟩ := by rw [AH.push_row, if_pos rfl]
  have n1 : (H.push ⟨38, true, [v]⟩).next = H.next + 1 := rfl
  revert up e1 n1
  generalize H.push ⟨38, true, [v]⟩ = H1
  intro up e1 n1
  refine (sorted_c H.next v y H1 e1 (hv.same (up.le hs).row) hy).mono ?_
  rintro u H2 ⟨up2, hf⟩
  have hl2 := sortedL_length y
  have u2 : Up H.next H H2 := up.trans up2 (by omega)
  refine Holds.mp ?_
  try simp (disch := first | omega | (simp only [ints_length, List.length_replicate, List.length_set, sortedL_length, bools_length, metL_length]; done) | (simp only [ints_length, List.length_replicate, List.length_set, sortedL_length, bools_length, metL_length]; omega)) only [Sall,evalOp,init,binE,binI,unE,convE,okNil,builtE,gv,TD.isAgg,resV,↓reduceIte,Nat.reduceEqDiff,reduceCtorEq,Nat.reduceAdd,Nat.reduceMul,Nat.reduceLeDiff,quietOp,blindOp,Int.reduceEq,Int.reduceLT,Int.reduceLE,Nat.reduceLT,ti2,ti3,ti4,ti45,ti46,ti38,ti25,ti30,ti22,ti32,ti24,ti95,ti172,ti169,ti165,ti166,ti65,ti143,ti87, builtE, hf.rd.len]
  refine awp_loop (fun m t H' => ∃ a : Nat, m = y.length - a ∧ a ≤ y.length ∧ t 13 = .int .i64 a ∧ t 12 = .int .i64 y.length ∧ t 11 = u ∧ t 0 = v ∧ t 1 = .int .i64 n ∧ H' = H2 ∧ (∀ i, i < a → (sortedL y).getD i 0 = (i : Int))) y.length ?_ ?_
  · refine ⟨0, by omega, by omega, ?_⟩
    try simp (disch := first | omega | (simp only [ints_length, List.length_replicate, List.length_set, sortedL_length, bools_length, metL_length]; done) | (simp only [ints_length, List.length_replicate, List.length_set, sortedL_length, bools_length, metL_length]; omega)) only [Sall,evalOp,init,binE,binI,unE,convE,okNil,builtE,gv,TD.isAgg,resV,↓reduceIte,Nat.reduceEqDiff,reduceCtorEq,Nat.reduceAdd,Nat.reduceMul,Nat.reduceLeDiff,quietOp,blindOp,Int.reduceEq,Int.reduceLT,Int.reduceLE,Nat.reduceLT,ti2,ti3,ti4,ti45,ti46,ti38,ti25,ti30,ti22,ti32,ti24,ti95,ti172,ti169,ti165,ti166,ti65,ti143,ti87, Int.natCast_zero, Nat.not_lt_zero, false_implies]
  · rintro m t H' ⟨a, hm, han, h13, h12, h11, h0, h1, rfl, hall⟩
    try simp (disch := first | omega | (simp only [ints_length, List.length_replicate, List.length_set, sortedL_length, bools_length, metL_length]; done) | (simp only [ints_length, List.length_replicate, List.length_set, sortedL_length, bools_length, metL_length]; omega)) only [Sall,evalOp,init,binE,binI,unE,convE,okNil,builtE,gv,TD.isAgg,resV,↓reduceIte,Nat.reduceEqDiff,reduceCtorEq,Nat.reduceAdd,Nat.reduceMul,Nat.reduceLeDiff,quietOp,blindOp,Int.reduceEq,Int.reduceLT,Int.reduceLE,Nat.reduceLT,ti2,ti3,ti4,ti45,ti46,ti38,ti25,ti30,ti22,ti32,ti24,ti95,ti172,ti169,ti165,ti166,ti65,ti143,ti87, h13, h12]
    refine condC_dec (fun h => ?_) (fun h => ?_)
    · obtain ⟨i, o, uu, cc, r, rfl, hr, _, hg, _⟩ := hf.rd.get (by omega)
      have g1 := hg a (by omega)
      by_cases hx : (sortedL y).getD a 0 = (a : Int)
      · have e2 : ((sortedL y).getD a 0 != (a : Int)) = false := by rw [hx]; exact bne_self_eq_false _
        try simp (disch := first | omega | (simp only [ints_length, List.length_replicate, List.length_set, sortedL_length, bools_length, metL_length]; done) | (simp only [ints_length, List.length_replicate, List.length_set, sortedL_length, bools_length, metL_length]; omega)) only [Sall,evalOp,init,binE,binI,unE,convE,okNil,builtE,gv,TD.isAgg,resV,↓reduceIte,Nat.reduceEqDiff,reduceCtorEq,Nat.reduceAdd,Nat.reduceMul,Nat.reduceLeDiff,quietOp,blindOp,Int.reduceEq,Int.reduceLT,Int.reduceLE,Nat.reduceLT,ti2,ti3,ti4,ti45,ti46,ti38,ti25,ti30,ti22,ti32,ti24,ti95,ti172,ti169,ti165,ti166,ti65,ti143,ti87, h13, h12, h11, h0, h1, hr, g1, e2, w64]
        (repeat refine And.intro (by omega) ?_)
        refine ⟨y.length - (a + 1), by omega, a + 1, rfl, by omega, rfl, fun i hi => ?_⟩
        by_cases e : i = a
        · rw [e]; exact hx
        · exact hall i (by omega)
      · have e2 : ((sortedL y).getD a 0 != (a : Int)) = true := bne_iff_ne.2 hx
        try simp (disch := first | omega | (simp only [ints_length, List.length_replicate, List.length_set, sortedL_length, bools_length, metL_length]; done) | (simp only [ints_length, List.length_replicate, List.length_set, sortedL_length, bools_length, metL_length]; omega)) only [Sall,evalOp,init,binE,binI,unE,convE,okNil,builtE,gv,TD.isAgg,resV,↓reduceIte,Nat.reduceEqDiff,reduceCtorEq,Nat.reduceAdd,Nat.reduceMul,Nat.reduceLeDiff,quietOp,blindOp,Int.reduceEq,Int.reduceLT,Int.reduceLE,Nat.reduceLT,ti2,ti3,ti4,ti45,ti46,ti38,ti25,ti30,ti22,ti32,ti24,ti95,ti172,ti169,ti165,ti166,ti65,ti143,ti87, h13, h12, h11, h0, h1, hr, g1, e2, w64]
        (repeat refine And.intro (by omega) ?_)
        rw [ordB_sorted_bad (by omega) hx]
        exact ⟨rfl, u2⟩
    · try simp (disch := first | omega | (simp only [ints_length, List.length_replicate, List.length_set, sortedL_length, bools_length, metL_length]; done) | (simp only [ints_length, List.length_replicate, List.length_set, sortedL_length, bools_length, metL_length]; omega)) only [Sall,evalOp,init,binE,binI,unE,convE,okNil,builtE,gv,TD.isAgg,resV,↓reduceIte,Nat.reduceEqDiff,reduceCtorEq,Nat.reduceAdd,Nat.reduceMul,Nat.reduceLeDiff,quietOp,blindOp,Int.reduceEq,Int.reduceLT,Int.reduceLE,Nat.reduceLT,ti2,ti3,ti4,ti45,ti46,ti38,ti25,ti30,ti22,ti32,ti24,ti95,ti172,ti169,ti165,ti166,ti65,ti143,ti87, h0, h1]
      have ha : a = y.length := by omega
      subst ha
      refine (size_c v y H' (hv.same (u2.le hs).row) hy).to ?_
      try simp (disch := first | omega | (simp only [ints_length, List.length_replicate, List.length_set, sortedL_length, bools_length, metL_length]; done) | (simp only [ints_length, List.length_replicate, List.length_set, sortedL_length, bools_length, metL_length]; omega)) only [Sall,evalOp,init,binE,binI,unE,convE,okNil,builtE,gv,TD.isAgg,resV,↓reduceIte,Nat.reduceEqDiff,reduceCtorEq,Nat.reduceAdd,Nat.reduceMul,Nat.reduceLeDiff,quietOp,blindOp,Int.reduceEq,Int.reduceLT,Int.reduceLE,Nat.reduceLT,ti2,ti3,ti4,ti45,ti46,ti38,ti25,ti30,ti22,ti32,ti24,ti95,ti172,ti169,ti165,ti166,ti65,ti143,ti87, h1]
      rw [ordB_sorted_all hall]
      refine ⟨?_, u2⟩
      by_cases e : y.length = n
      · rw [decide_eq_true e, e]; simp
      · rw [decide_eq_false e]; simp; omega
theorem l01Order_c (n : Nat) (hn : n ≤ 1024) (v : Value) (y : List Int) (H : AH) (hv : Rd 1 H v y.length y) (hy : y.length ≤ 4294967296) :
    ACalls Try.prog 191 [v, .int .i64 n] H (is (.bool (ordB n y)) H) := by
  refine acalls_up rfl (ACalls.wf (by kernel_rfl) fun hs => acalls_of_awp [.tmp 4] Try.func191 (by kernel_rfl) rfl rfl (Nat.le_of_ble_eq_true rfl) (by kernel_rfl) ?_)
  try simp (disch := first | omega | (simp only [ints_length, List.length_replicate, List.length_set, sortedL_length, bools_length, metL_length]; done) | (simp only [ints_length, List.length_replicate, List.length_set, sortedL_length, bools_length, metL_length]; omega)) only [Sall,evalOp,init,binE,binI,unE,convE,okNil,builtE,gv,TD.isAgg,resV,↓reduceIte,Nat.reduceEqDiff,reduceCtorEq,Nat.reduceAdd,Nat.reduceMul,Nat.reduceLeDiff,quietOp,blindOp,Int.reduceEq,Int.reduceLT,Int.reduceLE,Nat.reduceLT,ti2,ti3,ti4,ti45,ti46,ti38,ti25,ti30,ti22,ti32,ti24,ti95,ti172,ti169,ti165,ti166,ti65,ti143,ti87, zeros_bools, ← metL_nil]
  (repeat refine And.intro (by omega) ?_)
  have hml := metL_length n []
  refine awp_loop (fun m t H' => ∃ a : Nat, m = y.length - a ∧ a ≤ y.length ∧ t 6 = .int .i64 a ∧ t 5 = .slice (some ⟨H.next, 0, some 1⟩) n n ∧ t 0 = v ∧ t 1 = .int .i64 n ∧ H.next < H'.next ∧ (∀ i, i < H.next → H'.row i = H.row i) ∧ H'.row H.next = some ⟨4, true, bools (metL n (y.take a))⟩ ∧ goodTo n y a) y.length ?_ ?_
  · refine ⟨0, by omega, by omega, ?_⟩
    try simp (disch := first | omega | (simp only [ints_length, List.length_replicate, List.length_set, sortedL_length, bools_length, metL_length]; done) | (simp only [ints_length, List.length_replicate, List.length_set, sortedL_length, bools_length, metL_length]; omega)) only [Sall,evalOp,init,binE,binI,unE,convE,okNil,builtE,gv,TD.isAgg,resV,↓reduceIte,Nat.reduceEqDiff,reduceCtorEq,Nat.reduceAdd,Nat.reduceMul,Nat.reduceLeDiff,quietOp,blindOp,Int.reduceEq,Int.reduceLT,Int.reduceLE,Nat.reduceLT,ti2,ti3,ti4,ti45,ti46,ti38,ti25,ti30,ti22,ti32,ti24,ti95,ti172,ti169,ti165,ti166,ti65,ti143,ti87, Int.natCast_zero, List.take_zero]
    refine ⟨by omega, fun i hi => by rw [if_neg (by omega)], goodTo_zero n y⟩
  · rintro m t H' ⟨a, hm, han, h6, h5, h0, h1, hnx, hrows, hrow, hgood⟩
    have hv' : Rd 1 H' v y.length y := hv.same fun i r hr => by rw [hrows i (hs _ _ hr)]; exact hr
    have up : Up H.next H H' := ⟨by omega, hrows⟩
    try simp (disch := first | omega | (simp only [ints_length, List.length_replicate, List.length_set, sortedL_length, bools_length, metL_length]; done) | (simp only [ints_length, List.length_replicate, List.length_set, sortedL_length, bools_length, metL_length]; omega)) only [Sall,evalOp,init,binE,binI,unE,convE,okNil,builtE,gv,TD.isAgg,resV,↓reduceIte,Nat.reduceEqDiff,reduceCtorEq,Nat.reduceAdd,Nat.reduceMul,Nat.reduceLeDiff,quietOp,blindOp,Int.reduceEq,Int.reduceLT,Int.reduceLE,Nat.reduceLT,ti2,ti3,ti4,ti45,ti46,ti38,ti25,ti30,ti22,ti32,ti24,ti95,ti172,ti169,ti165,ti166,ti65,ti143,ti87, h6, h0, builtE, hv'.len]
    refine condC_dec (fun h => ?_) (fun h => ?_)
    · obtain ⟨i, o, uu, cc, r, rfl, hr, hc, hg, _⟩ := hv'.get (by omega)
      have g1 := hg a (by omega)
      obtain ⟨x, hx⟩ : ∃ x, x = y.getD a 0 := ⟨_, rfl⟩
      rw [← hx] at g1
      by_cases hin : 0 ≤ x ∧ x ≤ (n : Int) - 1
      · have hin' : 0 ≤ x ∧ x < (n : Int) := by omega
        have g2 := metL_get? n (y.take a) x hin'
        have g3 := metL_put n (y.take a) x hin'
        try simp (disch := first | omega | (simp only [ints_length, List.length_replicate, List.length_set, sortedL_length, bools_length, metL_length]; done) | (simp only [ints_length, List.length_replicate, List.length_set, sortedL_length, bools_length, metL_length]; omega)) only [Sall,evalOp,init,binE,binI,unE,convE,okNil,builtE,gv,TD.isAgg,resV,↓reduceIte,Nat.reduceEqDiff,reduceCtorEq,Nat.reduceAdd,Nat.reduceMul,Nat.reduceLeDiff,quietOp,blindOp,Int.reduceEq,Int.reduceLT,Int.reduceLE,Nat.reduceLT,ti2,ti3,ti4,ti45,ti46,ti38,ti25,ti30,ti22,ti32,ti24,ti95,ti172,ti169,ti165,ti166,ti65,ti143,ti87, h6, h0, h1, hr, g1, w64]
        (repeat refine And.intro (by omega) ?_)
        refine (l01In_c _ _ _ _).to ?_
        rw [decide_eq_true hin]
        cases hct : (y.take a).contains x with
        | true =>
          rw [hct] at g2
          try simp (disch := first | omega | (simp only [ints_length, List.length_replicate, List.length_set, sortedL_length, bools_length, metL_length]; done) | (simp only [ints_length, List.length_replicate, List.length_set, sortedL_length, bools_length, metL_length]; omega)) only [Sall,evalOp,init,binE,binI,unE,convE,okNil,builtE,gv,TD.isAgg,resV,↓reduceIte,Nat.reduceEqDiff,reduceCtorEq,Nat.reduceAdd,Nat.reduceMul,Nat.reduceLeDiff,quietOp,blindOp,Int.reduceEq,Int.reduceLT,Int.reduceLE,Nat.reduceLT,ti2,ti3,ti4,ti45,ti46,ti38,ti25,ti30,ti22,ti32,ti24,ti95,ti172,ti169,ti165,ti166,ti65,ti143,ti87, Bool.not_true, h6, h5, h0, h1, hr, g1, hrow, g2, w64]
          (repeat refine And.intro (by omega) ?_)
          rw [ordB_bad (i := a) (by omega) (.inr (by rw [← hx]; exact hct))]
          exact ⟨rfl, up⟩
        | false =>
          rw [hct] at g2
          have ne : ¬ i = H.next := by
            rintro rfl
            rw [hrow] at hr
            cases hr
            rcases hv.2 with ⟨h9, _⟩ | ⟨i9, o9, u9, c9, r9, e9, hr9, _⟩
            · omega
            · cases e9
              have := hs _ _ hr9
              omega
          try simp (disch := first | omega | (simp only [ints_length, List.length_replicate, List.length_set, sortedL_length, bools_length, metL_length]; done) | (simp only [ints_length, List.length_replicate, List.length_set, sortedL_length, bools_length, metL_length]; omega)) only [Sall,evalOp,init,binE,binI,unE,convE,okNil,builtE,gv,TD.isAgg,resV,↓reduceIte,Nat.reduceEqDiff,reduceCtorEq,Nat.reduceAdd,Nat.reduceMul,Nat.reduceLeDiff,quietOp,blindOp,Int.reduceEq,Int.reduceLT,Int.reduceLE,Nat.reduceLT,ti2,ti3,ti4,ti45,ti46,ti38,ti25,ti30,ti22,ti32,ti24,ti95,ti172,ti169,ti165,ti166,ti65,ti143,ti87, Bool.not_true, h6, h5, h0, h1, hr, g1, hrow, g2, g3, ne, w64]
          (repeat refine And.intro (by omega) ?_)
          refine ⟨by rw [bools_length, metL_length]; omega, y.length - (a + 1), by omega, a + 1, rfl, by omega, rfl, hnx, fun i hi => by rw [if_neg (by omega)]; exact hrows i hi, by rw [take_snoc y 0 a (by omega), ← hx], goodTo_succ (by omega) hgood (by rw [← hx]; exact hin') (by rw [← hx]; exact hct)⟩
      · try simp (disch := first | omega | (simp only [ints_length, List.length_replicate, List.length_set, sortedL_length, bools_length, metL_length]; done) | (simp only [ints_length, List.length_replicate, List.length_set, sortedL_length, bools_length, metL_length]; omega)) only [Sall,evalOp,init,binE,binI,unE,convE,okNil,builtE,gv,TD.isAgg,resV,↓reduceIte,Nat.reduceEqDiff,reduceCtorEq,Nat.reduceAdd,Nat.reduceMul,Nat.reduceLeDiff,quietOp,blindOp,Int.reduceEq,Int.reduceLT,Int.reduceLE,Nat.reduceLT,ti2,ti3,ti4,ti45,ti46,ti38,ti25,ti30,ti22,ti32,ti24,ti95,ti172,ti169,ti165,ti166,ti65,ti143,ti87, h6, h0, h1, hr, g1, w64]
        (repeat refine And.intro (by omega) ?_)
        refine (l01In_c _ _ _ _).to ?_
        rw [decide_eq_false hin]
        try simp (disch := first | omega | (simp only [ints_length, List.length_replicate, List.length_set, sortedL_length, bools_length, metL_length]; done) | (simp only [ints_length, List.length_replicate, List.length_set, sortedL_length, bools_length, metL_length]; omega)) only [Sall,evalOp,init,binE,binI,unE,convE,okNil,builtE,gv,TD.isAgg,resV,↓reduceIte,Nat.reduceEqDiff,reduceCtorEq,Nat.reduceAdd,Nat.reduceMul,Nat.reduceLeDiff,quietOp,blindOp,Int.reduceEq,Int.reduceLT,Int.reduceLE,Nat.reduceLT,ti2,ti3,ti4,ti45,ti46,ti38,ti25,ti30,ti22,ti32,ti24,ti95,ti172,ti169,ti165,ti166,ti65,ti143,ti87, Bool.not_false]
        rw [ordB_bad (i := a) (by omega) (.inl (by rw [← hx]; omega))]
        exact ⟨rfl, up⟩
    · have ha : a = y.length := by omega
      subst ha
      try simp (disch := first | omega | (simp only [ints_length, List.length_replicate, List.length_set, sortedL_length, bools_length, metL_length]; done) | (simp only [ints_length, List.length_replicate, List.length_set, sortedL_length, bools_length, metL_length]; omega)) only [Sall,evalOp,init,binE,binI,unE,convE,okNil,builtE,gv,TD.isAgg,resV,↓reduceIte,Nat.reduceEqDiff,reduceCtorEq,Nat.reduceAdd,Nat.reduceMul,Nat.reduceLeDiff,quietOp,blindOp,Int.reduceEq,Int.reduceLT,Int.reduceLE,Nat.reduceLT,ti2,ti3,ti4,ti45,ti46,ti38,ti25,ti30,ti22,ti32,ti24,ti95,ti172,ti169,ti165,ti166,ti65,ti143,ti87, h0, h1, builtE, hv'.len]
      rw [goodTo_all hgood]
      refine ⟨?_, up⟩
      by_cases e : y.length = n
      · rw [decide_eq_true e, e]; simp
      · rw [decide_eq_false e]; simp; omega

theorem isList_c (v : Value) (y : List Int) (H : AH) (hv : Rd 1 H v y.length y) (hy : y.length ≤ 4294967296) :
    ACalls Try.prog 128 [v] H (is (.bool (listB y)) H) := by
  refine acalls_of_awp [.tmp 2] Try.func128 (by kernel_rfl) rfl rfl (Nat.le_of_ble_eq_true rfl) (by kernel_rfl) ?_
  try simp (disch := first | omega | (simp only [ints_length, List.length_replicate, List.length_set, sortedL_length, bools_length, metL_length]; done) | (simp only [ints_length, List.length_replicate, List.length_set, sortedL_length, bools_length, metL_length]; omega)) only [Sall,evalOp,init,binE,binI,unE,convE,okNil,builtE,gv,TD.isAgg,resV,↓reduceIte,Nat.reduceEqDiff,reduceCtorEq,Nat.reduceAdd,Nat.reduceMul,Nat.reduceLeDiff,quietOp,blindOp,Int.reduceEq,Int.reduceLT,Int.reduceLE,Nat.reduceLT,ti2,ti3,ti4,ti45,ti46,ti38,ti25,ti30,ti22,ti32,ti24,ti95,ti172,ti169,ti165,ti166,ti65,ti143,ti87, true_and]
  refine (size_c v y H hv hy).to ?_
  try simp (disch := first | omega | (simp only [ints_length, List.length_replicate, List.length_set, sortedL_length, bools_length, metL_length]; done) | (simp only [ints_length, List.length_replicate, List.length_set, sortedL_length, bools_length, metL_length]; omega)) only [Sall,evalOp,init,binE,binI,unE,convE,okNil,builtE,gv,TD.isAgg,resV,↓reduceIte,Nat.reduceEqDiff,reduceCtorEq,Nat.reduceAdd,Nat.reduceMul,Nat.reduceLeDiff,quietOp,blindOp,Int.reduceEq,Int.reduceLT,Int.reduceLE,Nat.reduceLT,ti2,ti3,ti4,ti45,ti46,ti38,ti25,ti30,ti22,ti32,ti24,ti95,ti172,ti169,ti165,ti166,ti65,ti143,ti87, true_and]
  refine (between_c _ _ _ _).to ?_
  unfold listB
  by_cases h : 1 ≤ y.length ∧ y.length ≤ 14
  · rw [decide_eq_true (show (1 : Int) ≤ y.length ∧ (y.length : Int) ≤ 14 by omega), decide_eq_true h]
    try simp (disch := first | omega | (simp only [ints_length, List.length_replicate, List.length_set, sortedL_length, bools_length, metL_length]; done) | (simp only [ints_length, List.length_replicate, List.length_set, sortedL_length, bools_length, metL_length]; omega)) only [Sall,evalOp,init,binE,binI,unE,convE,okNil,builtE,gv,TD.isAgg,resV,↓reduceIte,Nat.reduceEqDiff,reduceCtorEq,Nat.reduceAdd,Nat.reduceMul,Nat.reduceLeDiff,quietOp,blindOp,Int.reduceEq,Int.reduceLT,Int.reduceLE,Nat.reduceLT,ti2,ti3,ti4,ti45,ti46,ti38,ti25,ti30,ti22,ti32,ti24,ti95,ti172,ti169,ti165,ti166,ti65,ti143,ti87, true_and]
    refine (size_c v y H hv hy).to ?_
    try simp (disch := first | omega | (simp only [ints_length, List.length_replicate, List.length_set, sortedL_length, bools_length, metL_length]; done) | (simp only [ints_length, List.length_replicate, List.length_set, sortedL_length, bools_length, metL_length]; omega)) only [Sall,evalOp,init,binE,binI,unE,convE,okNil,builtE,gv,TD.isAgg,resV,↓reduceIte,Nat.reduceEqDiff,reduceCtorEq,Nat.reduceAdd,Nat.reduceMul,Nat.reduceLeDiff,quietOp,blindOp,Int.reduceEq,Int.reduceLT,Int.reduceLE,Nat.reduceLT,ti2,ti3,ti4,ti45,ti46,ti38,ti25,ti30,ti22,ti32,ti24,ti95,ti172,ti169,ti165,ti166,ti65,ti143,ti87, true_and]
    refine (isOrder_c y.length v y H hv hy).to ?_
    try simp (disch := first | omega | (simp only [ints_length, List.length_replicate, List.length_set, sortedL_length, bools_length, metL_length]; done) | (simp only [ints_length, List.length_replicate, List.length_set, sortedL_length, bools_length, metL_length]; omega)) only [Sall,evalOp,init,binE,binI,unE,convE,okNil,builtE,gv,TD.isAgg,resV,↓reduceIte,Nat.reduceEqDiff,reduceCtorEq,Nat.reduceAdd,Nat.reduceMul,Nat.reduceLeDiff,quietOp,blindOp,Int.reduceEq,Int.reduceLT,Int.reduceLE,Nat.reduceLT,ti2,ti3,ti4,ti45,ti46,ti38,ti25,ti30,ti22,ti32,ti24,ti95,ti172,ti169,ti165,ti166,ti65,ti143,ti87, Bool.true_and, is]
  · rw [decide_eq_false (show ¬ ((1 : Int) ≤ y.length ∧ (y.length : Int) ≤ 14) by omega), decide_eq_false h]
    try simp (disch := first | omega | (simp only [ints_length, List.length_replicate, List.length_set, sortedL_length, bools_length, metL_length]; done) | (simp only [ints_length, List.length_replicate, List.length_set, sortedL_length, bools_length, metL_length]; omega)) only [Sall,evalOp,init,binE,binI,unE,convE,okNil,builtE,gv,TD.isAgg,resV,↓reduceIte,Nat.reduceEqDiff,reduceCtorEq,Nat.reduceAdd,Nat.reduceMul,Nat.reduceLeDiff,quietOp,blindOp,Int.reduceEq,Int.reduceLT,Int.reduceLE,Nat.reduceLT,ti2,ti3,ti4,ti45,ti46,ti38,ti25,ti30,ti22,ti32,ti24,ti95,ti172,ti169,ti165,ti166,ti65,ti143,ti87, Bool.false_and, is]

theorem l09List_c (v : Value) (y : List Int) (H : AH) (hv : Rd 1 H v y.length y) (hy : y.length ≤ 4294967296) :
    ACalls Try.prog 130 [v] H (is (.bool (listB y)) H) := by
  refine acalls_of_awp [.tmp 2] Try.func130 (by kernel_rfl) rfl rfl (Nat.le_of_ble_eq_true rfl) (by kernel_rfl) ?_
  try simp (disch := first | omega | (simp only [ints_length, List.length_replicate, List.length_set, sortedL_length, bools_length, metL_length]; done) | (simp only [ints_length, List.length_replicate, List.length_set, sortedL_length, bools_length, metL_length]; omega)) only [Sall,evalOp,init,binE,binI,unE,convE,okNil,builtE,gv,TD.isAgg,resV,↓reduceIte,Nat.reduceEqDiff,reduceCtorEq,Nat.reduceAdd,Nat.reduceMul,Nat.reduceLeDiff,quietOp,blindOp,Int.reduceEq,Int.reduceLT,Int.reduceLE,Nat.reduceLT,ti2,ti3,ti4,ti45,ti46,ti38,ti25,ti30,ti22,ti32,ti24,ti95,ti172,ti169,ti165,ti166,ti65,ti143,ti87, builtE, hv.len]
  refine (l01In_c _ _ _ _).to ?_
  unfold listB
  by_cases h : 1 ≤ y.length ∧ y.length ≤ 14
  · rw [decide_eq_true (show (1 : Int) ≤ y.length ∧ (y.length : Int) ≤ 14 by omega), decide_eq_true h]
    try simp (disch := first | omega | (simp only [ints_length, List.length_replicate, List.length_set, sortedL_length, bools_length, metL_length]; done) | (simp only [ints_length, List.length_replicate, List.length_set, sortedL_length, bools_length, metL_length]; omega)) only [Sall,evalOp,init,binE,binI,unE,convE,okNil,builtE,gv,TD.isAgg,resV,↓reduceIte,Nat.reduceEqDiff,reduceCtorEq,Nat.reduceAdd,Nat.reduceMul,Nat.reduceLeDiff,quietOp,blindOp,Int.reduceEq,Int.reduceLT,Int.reduceLE,Nat.reduceLT,ti2,ti3,ti4,ti45,ti46,ti38,ti25,ti30,ti22,ti32,ti24,ti95,ti172,ti169,ti165,ti166,ti65,ti143,ti87, true_and]
    refine (l01Order_c y.length (by omega) v y H hv hy).to ?_
    try simp (disch := first | omega | (simp only [ints_length, List.length_replicate, List.length_set, sortedL_length, bools_length, metL_length]; done) | (simp only [ints_length, List.length_replicate, List.length_set, sortedL_length, bools_length, metL_length]; omega)) only [Sall,evalOp,init,binE,binI,unE,convE,okNil,builtE,gv,TD.isAgg,resV,↓reduceIte,Nat.reduceEqDiff,reduceCtorEq,Nat.reduceAdd,Nat.reduceMul,Nat.reduceLeDiff,quietOp,blindOp,Int.reduceEq,Int.reduceLT,Int.reduceLE,Nat.reduceLT,ti2,ti3,ti4,ti45,ti46,ti38,ti25,ti30,ti22,ti32,ti24,ti95,ti172,ti169,ti165,ti166,ti65,ti143,ti87, Bool.true_and, is]
  · rw [decide_eq_false (show ¬ ((1 : Int) ≤ y.length ∧ (y.length : Int) ≤ 14) by omega), decide_eq_false h]
    try simp (disch := first | omega | (simp only [ints_length, List.length_replicate, List.length_set, sortedL_length, bools_length, metL_length]; done) | (simp only [ints_length, List.length_replicate, List.length_set, sortedL_length, bools_length, metL_length]; omega)) only [Sall,evalOp,init,binE,binI,unE,convE,okNil,builtE,gv,TD.isAgg,resV,↓reduceIte,Nat.reduceEqDiff,reduceCtorEq,Nat.reduceAdd,Nat.reduceMul,Nat.reduceLeDiff,quietOp,blindOp,Int.reduceEq,Int.reduceLT,Int.reduceLE,Nat.reduceLT,ti2,ti3,ti4,ti45,ti46,ti38,ti25,ti30,ti22,ti32,ti24,ti95,ti172,ti169,ti165,ti166,ti65,ti143,ti87, Bool.false_and, is]
end Go.Proofs.Ytgkmdfjjlghecaa.A
end

section
set_option linter.unusedSimpArgs false
set_option linter.unusedVariables false
set_option maxRecDepth 100000
set_option maxHeartbeats 2000000
namespace Go.Proofs.Ytgkmdfjjlghecaa.A
open Go Go.Abs Go.RowKit

theorem tot_le {b : Nat} : ∀ {ll : List (List Int)}, (∀ r ∈ ll, r.length ≤ b) → tot ll ≤ ll.length * b
  | [], _ => by simp [tot]
  | r :: ll, h => by
    have h1 := h r (List.mem_cons_self)
    have h2 := tot_le (ll := ll) fun q hq => h q (List.mem_cons_of_mem _ hq)
    have e : tot (r :: ll) = r.length + tot ll := by simp [tot]
    rw [e, List.length_cons, Nat.succ_mul]
    omega
theorem sqL_bound (y : List Int) : (sqL y).length ≤ 14 ∧ tot (sqL y) ≤ 196 ∧ ∀ r ∈ sqL y, r.length ≤ 14 := by
  obtain ⟨h1, _, h2⟩ := sqL_size y
  refine ⟨h1, ?_, h2⟩
  have := tot_le h2
  omega

theorem SquareOfList0_c (v : Value) (y : List Int) (H : AH) (hv : Rd 1 H v y.length y) (hy : y.length ≤ 4294967296) :
    ACalls Try.prog 53 [v] H (fun r H' => ∃ u, r = .tuple #[u, .int .i64 (sqC y)] ∧ Up H.next H H' ∧ Fr2 1 38 2 H.next H'.next H' u (sqL y)) := by
  refine ACalls.wf (by kernel_rfl) fun hs => acalls_of_awp [.tmp 2, .tmp 3] Try.func53 (by kernel_rfl) rfl rfl (Nat.le_of_ble_eq_true rfl) (by kernel_rfl) ?_
  try simp (disch := first | omega | (simp only [ints_length, List.length_replicate, List.length_set, sqR_length, sqM_length, sqP_length, sqA_length]; done) | (simp only [ints_length, List.length_replicate, List.length_set, sqR_length, sqM_length, sqP_length, sqA_length]; omega)) only [Sall,evalOp,init,binE,binI,unE,convE,okNil,builtE,gv,TD.isAgg,resV,↓reduceIte,Nat.reduceEqDiff,reduceCtorEq,Nat.reduceAdd,Nat.reduceMul,Nat.reduceLeDiff,quietOp,blindOp,Int.reduceEq,Int.reduceLT,Int.reduceLE,Nat.reduceLT,ti2,ti3,ti4,ti45,ti46,ti38,ti25,ti30,ti22,ti32,ti24,ti95,ti172,ti169,ti165,ti166,ti65,ti143,ti87, true_and]
  refine (isList_c v y H hv hy).to ?_
  unfold sqC sqL
  cases hb : listB y with
  | false =>
    try simp (disch := first | omega | (simp only [ints_length, List.length_replicate, List.length_set, sqR_length, sqM_length, sqP_length, sqA_length]; done) | (simp only [ints_length, List.length_replicate, List.length_set, sqR_length, sqM_length, sqP_length, sqA_length]; omega)) only [Sall,evalOp,init,binE,binI,unE,convE,okNil,builtE,gv,TD.isAgg,resV,↓reduceIte,Nat.reduceEqDiff,reduceCtorEq,Nat.reduceAdd,Nat.reduceMul,Nat.reduceLeDiff,quietOp,blindOp,Int.reduceEq,Int.reduceLT,Int.reduceLE,Nat.reduceLT,ti2,ti3,ti4,ti45,ti46,ti38,ti25,ti30,ti22,ti32,ti24,ti95,ti172,ti169,ti165,ti166,ti65,ti143,ti87, Bool.not_false]
    exact ⟨_, rfl, Up.refl _ _, .inl ⟨rfl, rfl⟩⟩
  | true =>
    obtain ⟨hlen, hin, hnd⟩ := listB_at hb
    try simp (disch := first | omega | (simp only [ints_length, List.length_replicate, List.length_set, sqR_length, sqM_length, sqP_length, sqA_length]; done) | (simp only [ints_length, List.length_replicate, List.length_set, sqR_length, sqM_length, sqP_length, sqA_length]; omega)) only [Sall,evalOp,init,binE,binI,unE,convE,okNil,builtE,gv,TD.isAgg,resV,↓reduceIte,Nat.reduceEqDiff,reduceCtorEq,Nat.reduceAdd,Nat.reduceMul,Nat.reduceLeDiff,quietOp,blindOp,Int.reduceEq,Int.reduceLT,Int.reduceLE,Nat.reduceLT,ti2,ti3,ti4,ti45,ti46,ti38,ti25,ti30,ti22,ti32,ti24,ti95,ti172,ti169,ti165,ti166,ti65,ti143,ti87, Bool.not_true]
    refine (size_c v y H hv hy).to ?_
    obtain ⟨n, hn⟩ : ∃ n, n = y.length := ⟨_, rfl⟩
    rw [← hn] at hv hy hlen hin ⊢
    try simp (disch := first | omega | (simp only [ints_length, List.length_replicate, List.length_set, sqR_length, sqM_length, sqP_length, sqA_length]; done) | (simp only [ints_length, List.length_replicate, List.length_set, sqR_length, sqM_length, sqP_length, sqA_length]; omega)) only [Sall,evalOp,init,binE,binI,unE,convE,okNil,builtE,gv,TD.isAgg,resV,↓reduceIte,Nat.reduceEqDiff,reduceCtorEq,Nat.reduceAdd,Nat.reduceMul,Nat.reduceLeDiff,quietOp,blindOp,Int.reduceEq,Int.reduceLT,Int.reduceLE,Nat.reduceLT,ti2,ti3,ti4,ti45,ti46,ti38,ti25,ti30,ti22,ti32,ti24,ti95,ti172,ti169,ti165,ti166,ti65,ti143,ti87, true_and]
    refine (square_c n (by omega) H).mono ?_
    rintro u H1 ⟨up1, hf1⟩
    have n1 := up1.next
    refine Holds.mp ?_
    try simp (disch := first | omega | (simp only [ints_length, List.length_replicate, List.length_set, sqR_length, sqM_length, sqP_length, sqA_length]; done) | (simp only [ints_length, List.length_replicate, List.length_set, sqR_length, sqM_length, sqP_length, sqA_length]; omega)) only [Sall,evalOp,init,binE,binI,unE,convE,okNil,builtE,gv,TD.isAgg,resV,↓reduceIte,Nat.reduceEqDiff,reduceCtorEq,Nat.reduceAdd,Nat.reduceMul,Nat.reduceLeDiff,quietOp,blindOp,Int.reduceEq,Int.reduceLT,Int.reduceLE,Nat.reduceLT,ti2,ti3,ti4,ti45,ti46,ti38,ti25,ti30,ti22,ti32,ti24,ti95,ti172,ti169,ti165,ti166,ti65,ti143,ti87, true_and]
    refine awp_loop (fun m t H' => ∃ a : Nat, m = n - a ∧ a ≤ n ∧ t 17 = .int .i64 a ∧ t 16 = .int .i64 n ∧ t 0 = v ∧ t 4 = .int .i64 n ∧ t 5 = u ∧ Up H.next H H' ∧ H'.next = H1.next ∧ Fr2 1 38 2 H.next H1.next H' u (sqM n y a 0)) n ?_ ?_
    · refine ⟨0, by omega, by omega, ?_⟩
      try simp (disch := first | omega | (simp only [ints_length, List.length_replicate, List.length_set, sqR_length, sqM_length, sqP_length, sqA_length]; done) | (simp only [ints_length, List.length_replicate, List.length_set, sqR_length, sqM_length, sqP_length, sqA_length]; omega)) only [Sall,evalOp,init,binE,binI,unE,convE,okNil,builtE,gv,TD.isAgg,resV,↓reduceIte,Nat.reduceEqDiff,reduceCtorEq,Nat.reduceAdd,Nat.reduceMul,Nat.reduceLeDiff,quietOp,blindOp,Int.reduceEq,Int.reduceLT,Int.reduceLE,Nat.reduceLT,ti2,ti3,ti4,ti45,ti46,ti38,ti25,ti30,ti22,ti32,ti24,ti95,ti172,ti169,ti165,ti166,ti65,ti143,ti87, Int.natCast_zero]
      refine ⟨up1, ?_⟩
      rw [sqM_zero]; exact hf1
    · rintro m t H' ⟨a, hm, han, h17, h16, h0, h4, h5, hup, hnx, hf⟩
      try simp (disch := first | omega | (simp only [ints_length, List.length_replicate, List.length_set, sqR_length, sqM_length, sqP_length, sqA_length]; done) | (simp only [ints_length, List.length_replicate, List.length_set, sqR_length, sqM_length, sqP_length, sqA_length]; omega)) only [Sall,evalOp,init,binE,binI,unE,convE,okNil,builtE,gv,TD.isAgg,resV,↓reduceIte,Nat.reduceEqDiff,reduceCtorEq,Nat.reduceAdd,Nat.reduceMul,Nat.reduceLeDiff,quietOp,blindOp,Int.reduceEq,Int.reduceLT,Int.reduceLE,Nat.reduceLT,ti2,ti3,ti4,ti45,ti46,ti38,ti25,ti30,ti22,ti32,ti24,ti95,ti172,ti169,ti165,ti166,ti65,ti143,ti87, h17, h16]
      refine condC_dec (fun h => ?_) (fun h => ?_)
      · have hv' : Rd 1 H' v n y := hv.same fun i r hr => by rw [hup.row i (hs _ _ hr)]; exact hr
        try simp (disch := first | omega | (simp only [ints_length, List.length_replicate, List.length_set, sqR_length, sqM_length, sqP_length, sqA_length]; done) | (simp only [ints_length, List.length_replicate, List.length_set, sqR_length, sqM_length, sqP_length, sqA_length]; omega)) only [Sall,evalOp,init,binE,binI,unE,convE,okNil,builtE,gv,TD.isAgg,resV,↓reduceIte,Nat.reduceEqDiff,reduceCtorEq,Nat.reduceAdd,Nat.reduceMul,Nat.reduceLeDiff,quietOp,blindOp,Int.reduceEq,Int.reduceLT,Int.reduceLE,Nat.reduceLT,ti2,ti3,ti4,ti45,ti46,ti38,ti25,ti30,ti22,ti32,ti24,ti95,ti172,ti169,ti165,ti166,ti65,ti143,ti87, h17, h16, h0, h4, h5, builtE, hv'.len]
        refine awp_loop (fun z t H3 => ∃ c : Nat, z = n - c ∧ c ≤ n ∧ t 22 = .int .i64 c ∧ t 21 = .int .i64 n ∧ t 20 = v ∧ t 6 = .int .i64 a ∧ t 17 = .int .i64 a ∧ t 16 = .int .i64 n ∧ t 0 = v ∧ t 4 = .int .i64 n ∧ t 5 = u ∧ Up H.next H H3 ∧ H3.next = H1.next ∧ Fr2 1 38 2 H.next H1.next H3 u (sqM n y a c)) n ?_ ?_
        · refine ⟨0, by omega, by omega, ?_⟩
          try simp (disch := first | omega | (simp only [ints_length, List.length_replicate, List.length_set, sqR_length, sqM_length, sqP_length, sqA_length]; done) | (simp only [ints_length, List.length_replicate, List.length_set, sqR_length, sqM_length, sqP_length, sqA_length]; omega)) only [Sall,evalOp,init,binE,binI,unE,convE,okNil,builtE,gv,TD.isAgg,resV,↓reduceIte,Nat.reduceEqDiff,reduceCtorEq,Nat.reduceAdd,Nat.reduceMul,Nat.reduceLeDiff,quietOp,blindOp,Int.reduceEq,Int.reduceLT,Int.reduceLE,Nat.reduceLT,ti2,ti3,ti4,ti45,ti46,ti38,ti25,ti30,ti22,ti32,ti24,ti95,ti172,ti169,ti165,ti166,ti65,ti143,ti87, Int.natCast_zero, h17, h16, h0, h4, h5]
          exact ⟨hup, hnx, hf⟩
        · rintro z t H3 ⟨c, hz, hcn, h22, h21, h20, h6, h17, h16, h0, h4, h5, hup3, hnx3, hf3⟩
          try simp (disch := first | omega | (simp only [ints_length, List.length_replicate, List.length_set, sqR_length, sqM_length, sqP_length, sqA_length]; done) | (simp only [ints_length, List.length_replicate, List.length_set, sqR_length, sqM_length, sqP_length, sqA_length]; omega)) only [Sall,evalOp,init,binE,binI,unE,convE,okNil,builtE,gv,TD.isAgg,resV,↓reduceIte,Nat.reduceEqDiff,reduceCtorEq,Nat.reduceAdd,Nat.reduceMul,Nat.reduceLeDiff,quietOp,blindOp,Int.reduceEq,Int.reduceLT,Int.reduceLE,Nat.reduceLT,ti2,ti3,ti4,ti45,ti46,ti38,ti25,ti30,ti22,ti32,ti24,ti95,ti172,ti169,ti165,ti166,ti65,ti143,ti87, h22, h21]
          refine condC_dec (fun hh => ?_) (fun hh => ?_)
          · have hv3 : Rd 1 H3 v n y := hv.same fun i r hr => by rw [hup3.row i (hs _ _ hr)]; exact hr
            obtain ⟨i, o, uu, cc, r, rfl, hr, hc, hg, _⟩ := hv3.get (by omega)
            have g1 := hg c (by omega)
            have hx := getD_in hin (j := c) (by omega)
            have hMl := sqM_length n y a c
            have hrow := sqM_getD n y a c (by omega)
            have hrl := sqR_length n y a c
            obtain ⟨mi, mvs, i6, rfl, q1, q2, q3, q4, q5, q6, q7, q8, q9⟩ := hf3.setF (j := a) (by omega) (by rw [hrow]; omega)
            rw [hrow] at q4 q8 q9
            rw [hMl] at q9
            rw [hrl] at q4
            have hE : Int.tmod ((a : Int) + y.getD c 0) n = sqE n a y c := rfl
            have hEr := sqE_range (n := n) (i := a) (y := y) (j := c) (by omega) hx.1
            revert g1 hE
            generalize hxx : y.getD c 0 = x at hx
            intro g1 hE
            try simp (disch := first | omega | (simp only [ints_length, List.length_replicate, List.length_set, sqR_length, sqM_length, sqP_length, sqA_length]; done) | (simp only [ints_length, List.length_replicate, List.length_set, sqR_length, sqM_length, sqP_length, sqA_length]; omega)) only [Sall,evalOp,init,binE,binI,unE,convE,okNil,builtE,gv,TD.isAgg,resV,↓reduceIte,Nat.reduceEqDiff,reduceCtorEq,Nat.reduceAdd,Nat.reduceMul,Nat.reduceLeDiff,quietOp,blindOp,Int.reduceEq,Int.reduceLT,Int.reduceLE,Nat.reduceLT,ti2,ti3,ti4,ti45,ti46,ti38,ti25,ti30,ti22,ti32,ti24,ti95,ti172,ti169,ti165,ti166,ti65,ti143,ti87, h22, h21, h20, h6, h17, h16, h0, h4, h5, hr, g1, hMl]
            (repeat refine And.intro (by omega) ?_)
            refine draw_id (by kernel_rfl) (by kernel_rfl) ?_
            try simp (disch := first | omega | (simp only [ints_length, List.length_replicate, List.length_set, sqR_length, sqM_length, sqP_length, sqA_length]; done) | (simp only [ints_length, List.length_replicate, List.length_set, sqR_length, sqM_length, sqP_length, sqA_length]; omega)) only [Sall,evalOp,init,binE,binI,unE,convE,okNil,builtE,gv,TD.isAgg,resV,↓reduceIte,Nat.reduceEqDiff,reduceCtorEq,Nat.reduceAdd,Nat.reduceMul,Nat.reduceLeDiff,quietOp,blindOp,Int.reduceEq,Int.reduceLT,Int.reduceLE,Nat.reduceLT,ti2,ti3,ti4,ti45,ti46,ti38,ti25,ti30,ti22,ti32,ti24,ti95,ti172,ti169,ti165,ti166,ti65,ti143,ti87, h22, h21, h20, h6, h17, h16, h0, h4, h5, hr, g1, hMl, q3, q4, q8, ints_set, w64, hE]
            (repeat refine And.intro (by omega) ?_)
            have q10 := q9 (sqR n y a (c + 1)) (by rw [sqR_length, hrl])
            rw [sqM_set n y a c (by omega) (by omega)] at q10
            rw [sqR_set n y a c (by omega)]
            exact ⟨.inr (.inl (by kernel_rfl)), n - (c + 1), by omega, c + 1, rfl, by omega, rfl, hup3.set q5 _, hnx3, q10⟩
          · try simp (disch := first | omega | (simp only [ints_length, List.length_replicate, List.length_set, sqR_length, sqM_length, sqP_length, sqA_length]; done) | (simp only [ints_length, List.length_replicate, List.length_set, sqR_length, sqM_length, sqP_length, sqA_length]; omega)) only [Sall,evalOp,init,binE,binI,unE,convE,okNil,builtE,gv,TD.isAgg,resV,↓reduceIte,Nat.reduceEqDiff,reduceCtorEq,Nat.reduceAdd,Nat.reduceMul,Nat.reduceLeDiff,quietOp,blindOp,Int.reduceEq,Int.reduceLT,Int.reduceLE,Nat.reduceLT,ti2,ti3,ti4,ti45,ti46,ti38,ti25,ti30,ti22,ti32,ti24,ti95,ti172,ti169,ti165,ti166,ti65,ti143,ti87, h17, h16, h0, h4, h5, w64]
            have hc : c = n := by omega
            subst hc
            refine ⟨c - (a + 1), by omega, a + 1, rfl, by omega, rfl, hup3, hnx3, ?_⟩
            rw [← sqM_next]; exact hf3
      · have ha : a = n := by omega
        subst ha
        try simp (disch := first | omega | (simp only [ints_length, List.length_replicate, List.length_set, sqR_length, sqM_length, sqP_length, sqA_length]; done) | (simp only [ints_length, List.length_replicate, List.length_set, sqR_length, sqM_length, sqP_length, sqA_length]; omega)) only [Sall,evalOp,init,binE,binI,unE,convE,okNil,builtE,gv,TD.isAgg,resV,↓reduceIte,Nat.reduceEqDiff,reduceCtorEq,Nat.reduceAdd,Nat.reduceMul,Nat.reduceLeDiff,quietOp,blindOp,Int.reduceEq,Int.reduceLT,Int.reduceLE,Nat.reduceLT,ti2,ti3,ti4,ti45,ti46,ti38,ti25,ti30,ti22,ti32,ti24,ti95,ti172,ti169,ti165,ti166,ti65,ti143,ti87, h5]
        refine ⟨u, rfl, hup, ?_⟩
        rw [sqM_all] at hf
        exact hf.wide (Nat.le_refl _) (by omega)
theorem specSquareOfList0_c (v : Value) (y : List Int) (H : AH) (hv : Rd 1 H v y.length y) (hy : y.length ≤ 4294967296) :
    ACalls Try.prog 54 [v] H (fun r H' => ∃ u, r = .tuple #[u, .int .i64 (sqC y)] ∧ Up H.next H H' ∧ Fr2 1 38 2 H.next H'.next H' u (sqL y)) := by
  refine ACalls.wf (by kernel_rfl) fun hs => acalls_of_awp [.tmp 2, .tmp 3] Try.func54 (by kernel_rfl) rfl rfl (Nat.le_of_ble_eq_true rfl) (by kernel_rfl) ?_
  try simp (disch := first | omega | (simp only [ints_length, List.length_replicate, List.length_set, sqR_length, sqM_length, sqP_length, sqA_length]; done) | (simp only [ints_length, List.length_replicate, List.length_set, sqR_length, sqM_length, sqP_length, sqA_length]; omega)) only [Sall,evalOp,init,binE,binI,unE,convE,okNil,builtE,gv,TD.isAgg,resV,↓reduceIte,Nat.reduceEqDiff,reduceCtorEq,Nat.reduceAdd,Nat.reduceMul,Nat.reduceLeDiff,quietOp,blindOp,Int.reduceEq,Int.reduceLT,Int.reduceLE,Nat.reduceLT,ti2,ti3,ti4,ti45,ti46,ti38,ti25,ti30,ti22,ti32,ti24,ti95,ti172,ti169,ti165,ti166,ti65,ti143,ti87, true_and]
  refine (l09List_c v y H hv hy).to ?_
  unfold sqC sqL
  cases hb : listB y with
  | false =>
    try simp (disch := first | omega | (simp only [ints_length, List.length_replicate, List.length_set, sqR_length, sqM_length, sqP_length, sqA_length]; done) | (simp only [ints_length, List.length_replicate, List.length_set, sqR_length, sqM_length, sqP_length, sqA_length]; omega)) only [Sall,evalOp,init,binE,binI,unE,convE,okNil,builtE,gv,TD.isAgg,resV,↓reduceIte,Nat.reduceEqDiff,reduceCtorEq,Nat.reduceAdd,Nat.reduceMul,Nat.reduceLeDiff,quietOp,blindOp,Int.reduceEq,Int.reduceLT,Int.reduceLE,Nat.reduceLT,ti2,ti3,ti4,ti45,ti46,ti38,ti25,ti30,ti22,ti32,ti24,ti95,ti172,ti169,ti165,ti166,ti65,ti143,ti87, Bool.not_false]
    exact ⟨_, rfl, Up.refl _ _, .inl ⟨rfl, rfl⟩⟩
  | true =>
    obtain ⟨hlen, hin, hnd⟩ := listB_at hb
    obtain ⟨n, hn⟩ : ∃ n, n = y.length := ⟨_, rfl⟩
    rw [← hn] at hv hy hlen hin ⊢
    try simp (disch := first | omega | (simp only [ints_length, List.length_replicate, List.length_set, sqR_length, sqM_length, sqP_length, sqA_length]; done) | (simp only [ints_length, List.length_replicate, List.length_set, sqR_length, sqM_length, sqP_length, sqA_length]; omega)) only [Sall,evalOp,init,binE,binI,unE,convE,okNil,builtE,gv,TD.isAgg,resV,↓reduceIte,Nat.reduceEqDiff,reduceCtorEq,Nat.reduceAdd,Nat.reduceMul,Nat.reduceLeDiff,quietOp,blindOp,Int.reduceEq,Int.reduceLT,Int.reduceLE,Nat.reduceLT,ti2,ti3,ti4,ti45,ti46,ti38,ti25,ti30,ti22,ti32,ti24,ti95,ti172,ti169,ti165,ti166,ti65,ti143,ti87, Bool.not_true, builtE, hv.len, zeros_zero]
    refine awp_loop (fun m t H' => ∃ (a : Nat) (u : Value) (lo hi : Nat), m = n - a ∧ a ≤ n ∧ t 6 = .int .i64 a ∧ t 0 = v ∧ t 4 = .int .i64 n ∧ t 5 = u ∧ Up H.next H H' ∧ H.next ≤ lo ∧ lo ≤ hi ∧ hi ≤ H'.next ∧ Fr2 1 38 2 lo hi H' u (sqA n y a)) n ?_ ?_
    · refine ⟨0, .slice (some ⟨H.next, 0, some 1⟩) 0 0, H.next, H.next + 1, by omega, by omega, ?_⟩
      try simp (disch := first | omega | (simp only [ints_length, List.length_replicate, List.length_set, sqR_length, sqM_length, sqP_length, sqA_length]; done) | (simp only [ints_length, List.length_replicate, List.length_set, sqR_length, sqM_length, sqP_length, sqA_length]; omega)) only [Sall,evalOp,init,binE,binI,unE,convE,okNil,builtE,gv,TD.isAgg,resV,↓reduceIte,Nat.reduceEqDiff,reduceCtorEq,Nat.reduceAdd,Nat.reduceMul,Nat.reduceLeDiff,quietOp,blindOp,Int.reduceEq,Int.reduceLT,Int.reduceLE,Nat.reduceLT,ti2,ti3,ti4,ti45,ti46,ti38,ti25,ti30,ti22,ti32,ti24,ti95,ti172,ti169,ti165,ti166,ti65,ti143,ti87, Int.natCast_zero]
      refine ⟨(Up.refl _ H).push (by omega) _, ?_⟩
      (repeat refine And.intro (by omega) ?_)
      exact .inr ⟨H.next, [], fun _ => H.next + 1, by omega, by omega, rfl, by rw [AH.push_row, if_pos rfl], rfl, by dsimp only; omega, by dsimp only; omega, .inl (by dsimp only; omega), fun _ => Nat.le_refl _, fun j hj => by simp [sqA] at hj⟩
    · rintro m t H' ⟨a, u, lo, hi, hm, han, h6, h0, h4, h5, hup, hlo, hlh, hhi, hf⟩
      have hup1 := hup.next
      try simp (disch := first | omega | (simp only [ints_length, List.length_replicate, List.length_set, sqR_length, sqM_length, sqP_length, sqA_length]; done) | (simp only [ints_length, List.length_replicate, List.length_set, sqR_length, sqM_length, sqP_length, sqA_length]; omega)) only [Sall,evalOp,init,binE,binI,unE,convE,okNil,builtE,gv,TD.isAgg,resV,↓reduceIte,Nat.reduceEqDiff,reduceCtorEq,Nat.reduceAdd,Nat.reduceMul,Nat.reduceLeDiff,quietOp,blindOp,Int.reduceEq,Int.reduceLT,Int.reduceLE,Nat.reduceLT,ti2,ti3,ti4,ti45,ti46,ti38,ti25,ti30,ti22,ti32,ti24,ti95,ti172,ti169,ti165,ti166,ti65,ti143,ti87, h6, h4]
      refine condC_dec (fun h => ?_) (fun h => ?_)
      · try simp (disch := first | omega | (simp only [ints_length, List.length_replicate, List.length_set, sqR_length, sqM_length, sqP_length, sqA_length]; done) | (simp only [ints_length, List.length_replicate, List.length_set, sqR_length, sqM_length, sqP_length, sqA_length]; omega)) only [Sall,evalOp,init,binE,binI,unE,convE,okNil,builtE,gv,TD.isAgg,resV,↓reduceIte,Nat.reduceEqDiff,reduceCtorEq,Nat.reduceAdd,Nat.reduceMul,Nat.reduceLeDiff,quietOp,blindOp,Int.reduceEq,Int.reduceLT,Int.reduceLE,Nat.reduceLT,ti2,ti3,ti4,ti45,ti46,ti38,ti25,ti30,ti22,ti32,ti24,ti95,ti172,ti169,ti165,ti166,ti65,ti143,ti87, h6, h0, h4, h5, zeros_zero]
        refine awp_loop (fun z t H3 => ∃ (c : Nat) (w : Value) (lo2 hi2 : Nat), z = n - c ∧ c ≤ n ∧ t 8 = .int .i64 c ∧ t 7 = w ∧ t 6 = .int .i64 a ∧ t 0 = v ∧ t 4 = .int .i64 n ∧ t 5 = u ∧ Up H'.next H' H3 ∧ H'.next ≤ lo2 ∧ lo2 ≤ hi2 ∧ hi2 ≤ H3.next ∧ Fr 1 2 lo2 hi2 H3 w c (sqP n y a c)) n ?_ ?_
        · refine ⟨0, .slice (some ⟨H'.next, 0, some 1⟩) 0 0, H'.next, H'.next + 1, by omega, by omega, ?_⟩
          try simp (disch := first | omega | (simp only [ints_length, List.length_replicate, List.length_set, sqR_length, sqM_length, sqP_length, sqA_length]; done) | (simp only [ints_length, List.length_replicate, List.length_set, sqR_length, sqM_length, sqP_length, sqA_length]; omega)) only [Sall,evalOp,init,binE,binI,unE,convE,okNil,builtE,gv,TD.isAgg,resV,↓reduceIte,Nat.reduceEqDiff,reduceCtorEq,Nat.reduceAdd,Nat.reduceMul,Nat.reduceLeDiff,quietOp,blindOp,Int.reduceEq,Int.reduceLT,Int.reduceLE,Nat.reduceLT,ti2,ti3,ti4,ti45,ti46,ti38,ti25,ti30,ti22,ti32,ti24,ti95,ti172,ti169,ti165,ti166,ti65,ti143,ti87, Int.natCast_zero, h6, h0, h4, h5]
          refine ⟨(Up.refl _ H').push (by omega) _, ?_⟩
          (repeat refine And.intro (by omega) ?_)
          exact ⟨by simp [sqP], .inr ⟨H'.next, Nat.le_refl _, Nat.lt_succ_self _, rfl, by rw [AH.push_row, if_pos rfl]; rfl⟩⟩
        · rintro z t H3 ⟨c, w, lo2, hi2, hz, hcn, h8, h7, h6, h0, h4, h5, hup3, hlo2, hlh2, hhi2, hw⟩
          have hup31 := hup3.next
          try simp (disch := first | omega | (simp only [ints_length, List.length_replicate, List.length_set, sqR_length, sqM_length, sqP_length, sqA_length]; done) | (simp only [ints_length, List.length_replicate, List.length_set, sqR_length, sqM_length, sqP_length, sqA_length]; omega)) only [Sall,evalOp,init,binE,binI,unE,convE,okNil,builtE,gv,TD.isAgg,resV,↓reduceIte,Nat.reduceEqDiff,reduceCtorEq,Nat.reduceAdd,Nat.reduceMul,Nat.reduceLeDiff,quietOp,blindOp,Int.reduceEq,Int.reduceLT,Int.reduceLE,Nat.reduceLT,ti2,ti3,ti4,ti45,ti46,ti38,ti25,ti30,ti22,ti32,ti24,ti95,ti172,ti169,ti165,ti166,ti65,ti143,ti87, h8, h4]
          refine condC_dec (fun hh => ?_) (fun hh => ?_)
          · have hv3 : Rd 1 H3 v n y := hv.same fun i r hr => by rw [hup3.row i (by have := hs _ _ hr; omega), hup.row i (hs _ _ hr)]; exact hr
            obtain ⟨i, o, uu, cc, r, rfl, hr, hc, hg, _⟩ := hv3.get (by omega)
            have g1 := hg c (by omega)
            have hx := getD_in hin (j := c) (by omega)
            have hE : Int.tmod ((a : Int) + y.getD c 0) n = sqE n a y c := rfl
            have hEr := sqE_range (n := n) (i := a) (y := y) (j := c) (by omega) hx.1
            have hPs := sqP_succ n y a c
            revert g1 hE hPs hEr
            generalize hxx : y.getD c 0 = x at hx
            generalize sqE n a y c = e
            intro g1 hE hEr hPs
            have zz : zeros 1 [.int .i64 0] = [.int .i64 0] := rfl
            try simp (disch := first | omega | (simp only [ints_length, List.length_replicate, List.length_set, sqR_length, sqM_length, sqP_length, sqA_length]; done) | (simp only [ints_length, List.length_replicate, List.length_set, sqR_length, sqM_length, sqP_length, sqA_length]; omega)) only [Sall,evalOp,init,binE,binI,unE,convE,okNil,builtE,gv,TD.isAgg,resV,↓reduceIte,Nat.reduceEqDiff,reduceCtorEq,Nat.reduceAdd,Nat.reduceMul,Nat.reduceLeDiff,quietOp,blindOp,Int.reduceEq,Int.reduceLT,Int.reduceLE,Nat.reduceLT,ti2,ti3,ti4,ti45,ti46,ti38,ti25,ti30,ti22,ti32,ti24,ti95,ti172,ti169,ti165,ti166,ti65,ti143,ti87, h8, h7, h6, h0, h4, h5, hr, g1, zz, slCells, w64, hE]
            (repeat refine And.intro (by omega) ?_)
            obtain ⟨H4, e4⟩ : ∃ H4, H4 = H3.push ⟨2, true, [.int .i64 e]⟩ := ⟨_, rfl⟩
            have n4 : H4.next = H3.next + 1 := by rw [e4]; rfl
            have s4 : ∀ i, i < H3.next → H4.row i = H3.row i := fun i hi => by rw [e4, AH.push_row, if_neg (by omega)]
            rw [← e4]
            clear e4
            refine appE_fr (k := 1) (lo := lo2) (hi := hi2) (l := sqP n y a c) (m := [e]) (hw.same fun i _ hi => s4 i (by omega)) rfl (by omega) rfl (by omega) (by decide) (by omega) (by omega) ?_
            intro v' H5 n5 s5 f5
            try simp (disch := first | omega | (simp only [ints_length, List.length_replicate, List.length_set, sqR_length, sqM_length, sqP_length, sqA_length]; done) | (simp only [ints_length, List.length_replicate, List.length_set, sqR_length, sqM_length, sqP_length, sqA_length]; omega)) only [Sall,evalOp,init,binE,binI,unE,convE,okNil,builtE,gv,TD.isAgg,resV,↓reduceIte,Nat.reduceEqDiff,reduceCtorEq,Nat.reduceAdd,Nat.reduceMul,Nat.reduceLeDiff,quietOp,blindOp,Int.reduceEq,Int.reduceLT,Int.reduceLE,Nat.reduceLT,ti2,ti3,ti4,ti45,ti46,ti38,ti25,ti30,ti22,ti32,ti24,ti95,ti172,ti169,ti165,ti166,ti65,ti143,ti87, h8, h6, h0, h4, h5, w64]
            refine ⟨n - (c + 1), by omega, c + 1, v', H4.next, H4.next + 1, rfl, by omega, rfl, rfl, ⟨by omega, fun i hi => by rw [s5 i (by omega) (by omega), s4 i (by omega), hup3.row i hi]⟩, by omega, by omega, by omega, ?_⟩
            rw [hPs]; exact f5
          · have hc : c = n := by omega
            subst hc
            rw [sqP_all] at hw
            have zz : zeros 1 [.slice none 0 0] = [.slice none 0 0] := rfl
            have ho := hw.rd.one
            have hc1 := cells_of_one ho
            have hc2 := noTuple_of_one ho
            try simp (disch := first | omega | (simp only [ints_length, List.length_replicate, List.length_set, sqR_length, sqM_length, sqP_length, sqA_length]; done) | (simp only [ints_length, List.length_replicate, List.length_set, sqR_length, sqM_length, sqP_length, sqA_length]; omega)) only [Sall,evalOp,init,binE,binI,unE,convE,okNil,builtE,gv,TD.isAgg,resV,↓reduceIte,Nat.reduceEqDiff,reduceCtorEq,Nat.reduceAdd,Nat.reduceMul,Nat.reduceLeDiff,quietOp,blindOp,Int.reduceEq,Int.reduceLT,Int.reduceLE,Nat.reduceLT,ti2,ti3,ti4,ti45,ti46,ti38,ti25,ti30,ti22,ti32,ti24,ti95,ti172,ti169,ti165,ti166,ti65,ti143,ti87, h7, h6, h0, h4, h5, zz, slCells, ho, hc1, hc2]
            obtain ⟨H4, e4⟩ : ∃ H4, H4 = H3.push ⟨38, true, [w]⟩ := ⟨_, rfl⟩
            have n4 : H4.next = H3.next + 1 := by rw [e4]; rfl
            have s4 : ∀ i, i < H3.next → H4.row i = H3.row i := fun i hi => by rw [e4, AH.push_row, if_neg (by omega)]
            rw [← e4]
            clear e4
            refine appE_fr2 (lo := lo) (hi := hi) (hf.same fun i _ hi => by rw [s4 i (by omega), hup3.row i (by omega)]) ((hw.same fun i _ hi => s4 i (by omega)).wide (by omega) (by omega)) rfl (by decide) (by rw [sqA_length]; omega) hlh (by omega) ?_
            intro v' H5 n5 s5 f5
            try simp (disch := first | omega | (simp only [ints_length, List.length_replicate, List.length_set, sqR_length, sqM_length, sqP_length, sqA_length]; done) | (simp only [ints_length, List.length_replicate, List.length_set, sqR_length, sqM_length, sqP_length, sqA_length]; omega)) only [Sall,evalOp,init,binE,binI,unE,convE,okNil,builtE,gv,TD.isAgg,resV,↓reduceIte,Nat.reduceEqDiff,reduceCtorEq,Nat.reduceAdd,Nat.reduceMul,Nat.reduceLeDiff,quietOp,blindOp,Int.reduceEq,Int.reduceLT,Int.reduceLE,Nat.reduceLT,ti2,ti3,ti4,ti45,ti46,ti38,ti25,ti30,ti22,ti32,ti24,ti95,ti172,ti169,ti165,ti166,ti65,ti143,ti87, h6, h0, h4, w64]
            refine ⟨c - (a + 1), by omega, a + 1, v', lo, H4.next + 1, rfl, by omega, rfl, rfl, ⟨by omega, fun i hi => by rw [s5 i (by omega) (by omega), s4 i (by omega), hup3.row i (by omega), hup.row i hi]⟩, by omega, by omega, by omega, ?_⟩
            rw [sqA_succ]; exact f5
      · have ha : a = n := by omega
        subst ha
        try simp (disch := first | omega | (simp only [ints_length, List.length_replicate, List.length_set, sqR_length, sqM_length, sqP_length, sqA_length]; done) | (simp only [ints_length, List.length_replicate, List.length_set, sqR_length, sqM_length, sqP_length, sqA_length]; omega)) only [Sall,evalOp,init,binE,binI,unE,convE,okNil,builtE,gv,TD.isAgg,resV,↓reduceIte,Nat.reduceEqDiff,reduceCtorEq,Nat.reduceAdd,Nat.reduceMul,Nat.reduceLeDiff,quietOp,blindOp,Int.reduceEq,Int.reduceLT,Int.reduceLE,Nat.reduceLT,ti2,ti3,ti4,ti45,ti46,ti38,ti25,ti30,ti22,ti32,ti24,ti95,ti172,ti169,ti165,ti166,ti65,ti143,ti87, h5]
        exact ⟨u, rfl, hup, hf.wide hlo (by omega)⟩
theorem SquareOfList_c (v : Value) (n : Nat) (y : List Int) (H : AH) (hv : Rd 1 H v n y) (hy : n ≤ 4294967296) :
    ACalls Try.prog 53 [v] H (fun r H' => ∃ u, r = .tuple #[u, .int .i64 (sqC y)] ∧ Up H.next H H' ∧ Fr2 1 38 2 H.next H'.next H' u (sqL y)) := by
  have e := hv.lenK1
  subst e
  exact SquareOfList0_c v y H hv hy
theorem specSquareOfList_c (v : Value) (n : Nat) (y : List Int) (H : AH) (hv : Rd 1 H v n y) (hy : n ≤ 4294967296) :
    ACalls Try.prog 54 [v] H (fun r H' => ∃ u, r = .tuple #[u, .int .i64 (sqC y)] ∧ Up H.next H H' ∧ Fr2 1 38 2 H.next H'.next H' u (sqL y)) := by
  have e := hv.lenK1
  subst e
  exact specSquareOfList0_c v y H hv hy
end Go.Proofs.Ytgkmdfjjlghecaa.A
end
