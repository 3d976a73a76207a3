/- Contracts of the laws' own helpers: slices of integers, and slices of them. And what follows. -/
import Derived.Test.YtnpmidgikbbnbaaM2
import Derived.RangeFuncBox
import Derived.RangeFuncLeaves
import Derived.Shelf.Abstract
import Derived.WalkKit
import Derived.OwnWalkIn
import Derived.TacticsInMore
import Derived.LoopNIn
import Derived.LoopIn
import Derived.Maps.AppendAt
import Derived.KernelRfl
import Derived.Test.YtnpmidgikbbnbaaProg
import Derived.Sort.OwnSortedInts
import Derived.Laws.AppendOwn
import Derived.Shelf.SortM.Plain
import Derived.Shelf.SortM.SortNone
import Derived.Lib.SlicesCompact
section
set_option linter.unusedSimpArgs false
set_option linter.unusedVariables false
set_option maxRecDepth 100000
namespace Go.Proofs.Ytnpmidgikbbnbaa.A
open Go Go.Abs Go.RowKit

theorem eqInt64S_c (va vb : Value) (n m : Nat) (l : List Int) (hn : n ≤ 4294967296) (H : AH) (ha : Rd 1 H va n l) (hb : Rd 1 H vb m l) : ACalls Try.prog 39 [va, vb] H (is (.bool true) H) := by
  have hmn : m = n := by rw [ha.lenK1, hb.lenK1]
  subst hmn
  refine acalls_up rfl (acalls_of_awp [.tmp 4] Try.func39 (by kernel_rfl) rfl rfl (Nat.le_of_ble_eq_true rfl) (by kernel_rfl) ?_)
  try simp (disch := first | omega | (simp only [ints_length, List.length_replicate]; done) | (simp only [ints_length, List.length_replicate]; omega)) only [Sall,evalOp,init,binE,binI,unE,convE,okNil,builtE,gv,TD.isAgg,resV,↓reduceIte,Nat.reduceEqDiff,reduceCtorEq,Nat.reduceAdd,Nat.reduceMul,Nat.reduceLeDiff,quietOp,blindOp,Int.reduceEq,Int.reduceLT,Int.reduceLE,Nat.reduceLT,ti2,ti3,ti4,ti41,ti42,ti62,ti22,ti45,ti37,ti47,ti39,ti74,ti138,ti101,ti103,ti108,ti24,ti28,ti96, builtE, ha.len, hb.len, bne_self_eq_false]
  refine awp_loop (fun x t H' => ∃ a : Nat, x = m - a ∧ a ≤ m ∧ t 5 = .int .i64 a ∧ t 0 = va ∧ t 1 = vb ∧ H' = H) m ?_ ?_
  · refine ⟨0, by omega, by omega, ?_⟩
    try simp (disch := first | omega | (simp only [ints_length, List.length_replicate]; done) | (simp only [ints_length, List.length_replicate]; omega)) only [Sall,evalOp,init,binE,binI,unE,convE,okNil,builtE,gv,TD.isAgg,resV,↓reduceIte,Nat.reduceEqDiff,reduceCtorEq,Nat.reduceAdd,Nat.reduceMul,Nat.reduceLeDiff,quietOp,blindOp,Int.reduceEq,Int.reduceLT,Int.reduceLE,Nat.reduceLT,ti2,ti3,ti4,ti41,ti42,ti62,ti22,ti45,ti37,ti47,ti39,ti74,ti138,ti101,ti103,ti108,ti24,ti28,ti96, Int.natCast_zero]
  · rintro x t H' ⟨a, hm, h14, h5, h2, h3, rfl⟩
    try simp (disch := first | omega | (simp only [ints_length, List.length_replicate]; done) | (simp only [ints_length, List.length_replicate]; omega)) only [Sall,evalOp,init,binE,binI,unE,convE,okNil,builtE,gv,TD.isAgg,resV,↓reduceIte,Nat.reduceEqDiff,reduceCtorEq,Nat.reduceAdd,Nat.reduceMul,Nat.reduceLeDiff,quietOp,blindOp,Int.reduceEq,Int.reduceLT,Int.reduceLE,Nat.reduceLT,ti2,ti3,ti4,ti41,ti42,ti62,ti22,ti45,ti37,ti47,ti39,ti74,ti138,ti101,ti103,ti108,ti24,ti28,ti96, h5, h2, builtE, ha.len]
    refine condC_dec (fun h => ?_) (fun h => ?_)
    · obtain ⟨i, o, u, c, r, rfl, hr, hc, hs, hg⟩ := ha.get (by omega)
      obtain ⟨i', o', u', c', r', rfl, hr', hc', hs', hg'⟩ := hb.get (by omega)
      refine draw_id (by kernel_rfl) (by kernel_rfl) ?_
      try simp (disch := first | omega | (simp only [ints_length, List.length_replicate]; done) | (simp only [ints_length, List.length_replicate]; omega)) only [Sall,evalOp,init,binE,binI,unE,convE,okNil,builtE,gv,TD.isAgg,resV,↓reduceIte,Nat.reduceEqDiff,reduceCtorEq,Nat.reduceAdd,Nat.reduceMul,Nat.reduceLeDiff,quietOp,blindOp,Int.reduceEq,Int.reduceLT,Int.reduceLE,Nat.reduceLT,ti2,ti3,ti4,ti41,ti42,ti62,ti22,ti45,ti37,ti47,ti39,ti74,ti138,ti101,ti103,ti108,ti24,ti28,ti96, h5, h2, h3, hr, hr', hs, hs', bne_self_eq_false, w64]
      refine ⟨⟨by omega, by omega⟩, ⟨by omega, by omega⟩, m - (a + 1), by omega, a + 1, ?_⟩
      and_intros <;> first | omega | rfl | assumption
    · try simp (disch := first | omega | (simp only [ints_length, List.length_replicate]; done) | (simp only [ints_length, List.length_replicate]; omega)) only [Sall,evalOp,init,binE,binI,unE,convE,okNil,builtE,gv,TD.isAgg,resV,↓reduceIte,Nat.reduceEqDiff,reduceCtorEq,Nat.reduceAdd,Nat.reduceMul,Nat.reduceLeDiff,quietOp,blindOp,Int.reduceEq,Int.reduceLT,Int.reduceLE,Nat.reduceLT,ti2,ti3,ti4,ti41,ti42,ti62,ti22,ti45,ti37,ti47,ti39,ti74,ti138,ti101,ti103,ti108,ti24,ti28,ti96, true_and]
      exact Up.refl _ _

theorem eqInt64SS_c (va vb : Value) (ll : List (List Int)) (hn : ll.length ≤ 4294967296) (hn2 : ∀ l ∈ ll, l.length ≤ 4294967296) (H : AH) (ha : Rd2 1 H va ll) (hb : Rd2 1 H vb ll) : ACalls Try.prog 13 [va, vb] H (is (.bool true) H) := by
  refine acalls_up rfl (acalls_of_awp [.tmp 4] Try.func13 (by kernel_rfl) rfl rfl (Nat.le_of_ble_eq_true rfl) (by kernel_rfl) ?_)
  try simp (disch := first | omega | (simp only [ints_length, List.length_replicate]; done) | (simp only [ints_length, List.length_replicate]; omega)) only [Sall,evalOp,init,binE,binI,unE,convE,okNil,builtE,gv,TD.isAgg,resV,↓reduceIte,Nat.reduceEqDiff,reduceCtorEq,Nat.reduceAdd,Nat.reduceMul,Nat.reduceLeDiff,quietOp,blindOp,Int.reduceEq,Int.reduceLT,Int.reduceLE,Nat.reduceLT,ti2,ti3,ti4,ti41,ti42,ti62,ti22,ti45,ti37,ti47,ti39,ti74,ti138,ti101,ti103,ti108,ti24,ti28,ti96, builtE, ha.len, hb.len, bne_self_eq_false]
  refine awp_loop (fun x t H' => ∃ a : Nat, x = ll.length - a ∧ a ≤ ll.length ∧ t 5 = .int .i64 a ∧ t 0 = va ∧ t 1 = vb ∧ H' = H) ll.length ?_ ?_
  · refine ⟨0, by omega, by omega, ?_⟩
    try simp (disch := first | omega | (simp only [ints_length, List.length_replicate]; done) | (simp only [ints_length, List.length_replicate]; omega)) only [Sall,evalOp,init,binE,binI,unE,convE,okNil,builtE,gv,TD.isAgg,resV,↓reduceIte,Nat.reduceEqDiff,reduceCtorEq,Nat.reduceAdd,Nat.reduceMul,Nat.reduceLeDiff,quietOp,blindOp,Int.reduceEq,Int.reduceLT,Int.reduceLE,Nat.reduceLT,ti2,ti3,ti4,ti41,ti42,ti62,ti22,ti45,ti37,ti47,ti39,ti74,ti138,ti101,ti103,ti108,ti24,ti28,ti96, Int.natCast_zero]
  · rintro x t H' ⟨a, hm, h14, h5, h2, h3, rfl⟩
    try simp (disch := first | omega | (simp only [ints_length, List.length_replicate]; done) | (simp only [ints_length, List.length_replicate]; omega)) only [Sall,evalOp,init,binE,binI,unE,convE,okNil,builtE,gv,TD.isAgg,resV,↓reduceIte,Nat.reduceEqDiff,reduceCtorEq,Nat.reduceAdd,Nat.reduceMul,Nat.reduceLeDiff,quietOp,blindOp,Int.reduceEq,Int.reduceLT,Int.reduceLE,Nat.reduceLT,ti2,ti3,ti4,ti41,ti42,ti62,ti22,ti45,ti37,ti47,ti39,ti74,ti138,ti101,ti103,ti108,ti24,ti28,ti96, h5, h2, builtE, ha.len]
    refine condC_dec (fun h => ?_) (fun h => ?_)
    · obtain ⟨i, o, u, c, r, y, m, rfl, hr, hy, hs, hk⟩ := ha.get (j := a) (by omega)
      obtain ⟨i', o', u', c', r', y', m', rfl, hr', hy', hs', hk'⟩ := hb.get (j := a) (by omega)
      refine draw_id (by kernel_rfl) (by kernel_rfl) ?_
      have hmem : ll.getD a [] ∈ ll := by rw [List.getD_eq_getElem?_getD, List.getElem?_eq_getElem (by omega)]; exact List.getElem_mem _
      have hml := hn2 _ hmem
      try simp (disch := first | omega | (simp only [ints_length, List.length_replicate]; done) | (simp only [ints_length, List.length_replicate]; omega)) only [Sall,evalOp,init,binE,binI,unE,convE,okNil,builtE,gv,TD.isAgg,resV,↓reduceIte,Nat.reduceEqDiff,reduceCtorEq,Nat.reduceAdd,Nat.reduceMul,Nat.reduceLeDiff,quietOp,blindOp,Int.reduceEq,Int.reduceLT,Int.reduceLE,Nat.reduceLT,ti2,ti3,ti4,ti41,ti42,ti62,ti22,ti45,ti37,ti47,ti39,ti74,ti138,ti101,ti103,ti108,ti24,ti28,ti96, h5, h2, h3, hr, hr', hy, hy', hk, hk']
      refine ⟨⟨by omega, by omega⟩, ⟨by omega, by omega⟩, (eqInt64S_c y y' m m' _ (by rw [hs.lenK1]; exact hml) _ hs hs').to ⟨.inr (.inr (LE.refl _)), ?_⟩⟩
      try simp (disch := first | omega | (simp only [ints_length, List.length_replicate]; done) | (simp only [ints_length, List.length_replicate]; omega)) only [Sall,evalOp,init,binE,binI,unE,convE,okNil,builtE,gv,TD.isAgg,resV,↓reduceIte,Nat.reduceEqDiff,reduceCtorEq,Nat.reduceAdd,Nat.reduceMul,Nat.reduceLeDiff,quietOp,blindOp,Int.reduceEq,Int.reduceLT,Int.reduceLE,Nat.reduceLT,ti2,ti3,ti4,ti41,ti42,ti62,ti22,ti45,ti37,ti47,ti39,ti74,ti138,ti101,ti103,ti108,ti24,ti28,ti96, h5, h2, h3, w64]
      refine ⟨ll.length - (a + 1), by omega, a + 1, ?_⟩
      and_intros <;> first | omega | rfl | assumption
    · try simp (disch := first | omega | (simp only [ints_length, List.length_replicate]; done) | (simp only [ints_length, List.length_replicate]; omega)) only [Sall,evalOp,init,binE,binI,unE,convE,okNil,builtE,gv,TD.isAgg,resV,↓reduceIte,Nat.reduceEqDiff,reduceCtorEq,Nat.reduceAdd,Nat.reduceMul,Nat.reduceLeDiff,quietOp,blindOp,Int.reduceEq,Int.reduceLT,Int.reduceLE,Nat.reduceLT,ti2,ti3,ti4,ti41,ti42,ti62,ti22,ti45,ti37,ti47,ti39,ti74,ti138,ti101,ti103,ti108,ti24,ti28,ti96, true_and]
      exact Up.refl _ _

theorem markInt64S_c (ty lo hi : Nat) (v : Value) (n : Nat) (l : List Int) (k0 : Int) (hk : 0 ≤ k0 ∧ k0 ≤ 4294967296) (hn : n ≤ 4294967296) (H : AH) (hv : Fr 1 ty lo hi H v n l) :
    ACalls Try.prog 40 [v, .int .i64 k0] H (fun r H' => r = .int .i64 (k0 + n) ∧ H'.next = H.next ∧ (∀ i, ¬(lo ≤ i ∧ i < hi) → H'.row i = H.row i) ∧ Fr 1 ty lo hi H' v n (seqL k0 n)) := by
  refine acalls_of_awp [.tmp 4] Try.func40 (by kernel_rfl) rfl rfl (Nat.le_of_ble_eq_true rfl) (by kernel_rfl) ?_
  try simp (disch := first | omega | (simp only [ints_length, List.length_replicate]; done) | (simp only [ints_length, List.length_replicate]; omega)) only [Sall,evalOp,init,binE,binI,unE,convE,okNil,builtE,gv,TD.isAgg,resV,↓reduceIte,Nat.reduceEqDiff,reduceCtorEq,Nat.reduceAdd,Nat.reduceMul,Nat.reduceLeDiff,quietOp,blindOp,Int.reduceEq,Int.reduceLT,Int.reduceLE,Nat.reduceLT,ti2,ti3,ti4,ti41,ti42,ti62,ti22,ti45,ti37,ti47,ti39,ti74,ti138,ti101,ti103,ti108,ti24,ti28,ti96, true_and]
  have hl := hv.lenK1
  refine awp_loop (fun m t H' => ∃ a : Nat, m = n - a ∧ a ≤ n ∧ t 5 = .int .i64 a ∧ t 1 = .int .i64 (k0 + a) ∧ t 0 = v ∧ H'.next = H.next ∧ (∀ i, ¬(lo ≤ i ∧ i < hi) → H'.row i = H.row i) ∧ Fr 1 ty lo hi H' v n (markL k0 l a)) n ?_ ?_
  · refine ⟨0, by omega, by omega, ?_⟩
    try simp (disch := first | omega | (simp only [ints_length, List.length_replicate]; done) | (simp only [ints_length, List.length_replicate]; omega)) only [Sall,evalOp,init,binE,binI,unE,convE,okNil,builtE,gv,TD.isAgg,resV,↓reduceIte,Nat.reduceEqDiff,reduceCtorEq,Nat.reduceAdd,Nat.reduceMul,Nat.reduceLeDiff,quietOp,blindOp,Int.reduceEq,Int.reduceLT,Int.reduceLE,Nat.reduceLT,ti2,ti3,ti4,ti41,ti42,ti62,ti22,ti45,ti37,ti47,ti39,ti74,ti138,ti101,ti103,ti108,ti24,ti28,ti96, markL_zero, Int.natCast_zero]
    exact ⟨by omega, hv⟩
  · rintro m t H' ⟨a, hm, h14, h5, h1, h0, hnx, hsm, hfr⟩
    try simp (disch := first | omega | (simp only [ints_length, List.length_replicate]; done) | (simp only [ints_length, List.length_replicate]; omega)) only [Sall,evalOp,init,binE,binI,unE,convE,okNil,builtE,gv,TD.isAgg,resV,↓reduceIte,Nat.reduceEqDiff,reduceCtorEq,Nat.reduceAdd,Nat.reduceMul,Nat.reduceLeDiff,quietOp,blindOp,Int.reduceEq,Int.reduceLT,Int.reduceLE,Nat.reduceLT,ti2,ti3,ti4,ti41,ti42,ti62,ti22,ti45,ti37,ti47,ti39,ti74,ti138,ti101,ti103,ti108,ti24,ti28,ti96, h5, h1, h0, builtE, hfr.rd.len]
    refine condC_dec (fun h => ?_) (fun h => ?_)
    · obtain ⟨i, hi1, hi2, rfl, hr⟩ := hfr.get (by omega)
      have e2 : (markL k0 l a).set a (k0 + (a : Int)) = markL k0 l (a + 1) := markL_set _ _ _ (by omega)
      have e3 : (markL k0 l a).length = n := by rw [markL_length _ _ _ (by omega), hl]
      try simp (disch := first | omega | (simp only [ints_length, List.length_replicate]; done) | (simp only [ints_length, List.length_replicate]; omega)) only [Sall,evalOp,init,binE,binI,unE,convE,okNil,builtE,gv,TD.isAgg,resV,↓reduceIte,Nat.reduceEqDiff,reduceCtorEq,Nat.reduceAdd,Nat.reduceMul,Nat.reduceLeDiff,quietOp,blindOp,Int.reduceEq,Int.reduceLT,Int.reduceLE,Nat.reduceLT,ti2,ti3,ti4,ti41,ti42,ti62,ti22,ti45,ti37,ti47,ti39,ti74,ti138,ti101,ti103,ti108,ti24,ti28,ti96, h5, h1, h0, hr, ints_set, e2, e3, w64]
      refine ⟨⟨by omega, by omega⟩, by omega, n - (a + 1), by omega, a + 1, rfl, by omega, by omega, by omega, hnx, fun x hx => ?_, ?_⟩
      · rw [if_neg (by omega)]; exact hsm x hx
      · exact hfr.set hr hi1 hi2 (by rw [e3, markL_length _ _ _ (by omega), hl])
    · try simp (disch := first | omega | (simp only [ints_length, List.length_replicate]; done) | (simp only [ints_length, List.length_replicate]; omega)) only [Sall,evalOp,init,binE,binI,unE,convE,okNil,builtE,gv,TD.isAgg,resV,↓reduceIte,Nat.reduceEqDiff,reduceCtorEq,Nat.reduceAdd,Nat.reduceMul,Nat.reduceLeDiff,quietOp,blindOp,Int.reduceEq,Int.reduceLT,Int.reduceLE,Nat.reduceLT,ti2,ti3,ti4,ti41,ti42,ti62,ti22,ti45,ti37,ti47,ti39,ti74,ti138,ti101,ti103,ti108,ti24,ti28,ti96, h1]
      have ha : a = n := by omega
      subst ha
      refine ⟨rfl, hnx, hsm, ?_⟩
      rw [hl] at hfr ⊢
      rwa [markL_all] at hfr

theorem heldInt64S_c (v : Value) (n : Nat) (k0 : Int) (hk : 0 ≤ k0 ∧ k0 ≤ 4294967296) (hn : n ≤ 4294967296) (H : AH) (hv : Rd 1 H v n (seqL k0 n)) :
    ACalls Try.prog 41 [v, .int .i64 k0] H (is (.int .i64 (k0 + n)) H) := by
  refine acalls_up rfl (acalls_of_awp [.tmp 4] Try.func41 (by kernel_rfl) rfl rfl (Nat.le_of_ble_eq_true rfl) (by kernel_rfl) ?_)
  try simp (disch := first | omega | (simp only [ints_length, List.length_replicate]; done) | (simp only [ints_length, List.length_replicate]; omega)) only [Sall,evalOp,init,binE,binI,unE,convE,okNil,builtE,gv,TD.isAgg,resV,↓reduceIte,Nat.reduceEqDiff,reduceCtorEq,Nat.reduceAdd,Nat.reduceMul,Nat.reduceLeDiff,quietOp,blindOp,Int.reduceEq,Int.reduceLT,Int.reduceLE,Nat.reduceLT,ti2,ti3,ti4,ti41,ti42,ti62,ti22,ti45,ti37,ti47,ti39,ti74,ti138,ti101,ti103,ti108,ti24,ti28,ti96, true_and]
  refine awp_loop (fun m t H' => ∃ a : Nat, m = n - a ∧ a ≤ n ∧ t 5 = .int .i64 a ∧ t 1 = .int .i64 (k0 + a) ∧ t 0 = v ∧ H' = H) n ?_ ?_
  · refine ⟨0, by omega, by omega, ?_⟩
    try simp (disch := first | omega | (simp only [ints_length, List.length_replicate]; done) | (simp only [ints_length, List.length_replicate]; omega)) only [Sall,evalOp,init,binE,binI,unE,convE,okNil,builtE,gv,TD.isAgg,resV,↓reduceIte,Nat.reduceEqDiff,reduceCtorEq,Nat.reduceAdd,Nat.reduceMul,Nat.reduceLeDiff,quietOp,blindOp,Int.reduceEq,Int.reduceLT,Int.reduceLE,Nat.reduceLT,ti2,ti3,ti4,ti41,ti42,ti62,ti22,ti45,ti37,ti47,ti39,ti74,ti138,ti101,ti103,ti108,ti24,ti28,ti96, Int.natCast_zero]
    omega
  · rintro m t H' ⟨a, hm, h14, h5, h1, h0, rfl⟩
    try simp (disch := first | omega | (simp only [ints_length, List.length_replicate]; done) | (simp only [ints_length, List.length_replicate]; omega)) only [Sall,evalOp,init,binE,binI,unE,convE,okNil,builtE,gv,TD.isAgg,resV,↓reduceIte,Nat.reduceEqDiff,reduceCtorEq,Nat.reduceAdd,Nat.reduceMul,Nat.reduceLeDiff,quietOp,blindOp,Int.reduceEq,Int.reduceLT,Int.reduceLE,Nat.reduceLT,ti2,ti3,ti4,ti41,ti42,ti62,ti22,ti45,ti37,ti47,ti39,ti74,ti138,ti101,ti103,ti108,ti24,ti28,ti96, h5, h1, h0, builtE, hv.len]
    refine condC_dec (fun h => ?_) (fun h => ?_)
    · obtain ⟨i, o, u, c, r, rfl, hr, hc, hs, _⟩ := hv.get (by omega)
      have e1 := hs a (by omega)
      rw [seqL_getD _ _ _ (by omega)] at e1
      try simp (disch := first | omega | (simp only [ints_length, List.length_replicate]; done) | (simp only [ints_length, List.length_replicate]; omega)) only [Sall,evalOp,init,binE,binI,unE,convE,okNil,builtE,gv,TD.isAgg,resV,↓reduceIte,Nat.reduceEqDiff,reduceCtorEq,Nat.reduceAdd,Nat.reduceMul,Nat.reduceLeDiff,quietOp,blindOp,Int.reduceEq,Int.reduceLT,Int.reduceLE,Nat.reduceLT,ti2,ti3,ti4,ti41,ti42,ti62,ti22,ti45,ti37,ti47,ti39,ti74,ti138,ti101,ti103,ti108,ti24,ti28,ti96, h5, h1, h0, hr, e1, bne_self_eq_false, w64]
      refine ⟨⟨by omega, by omega⟩, n - (a + 1), by omega, a + 1, ?_⟩
      and_intros <;> first | omega | rfl | assumption
    · try simp (disch := first | omega | (simp only [ints_length, List.length_replicate]; done) | (simp only [ints_length, List.length_replicate]; omega)) only [Sall,evalOp,init,binE,binI,unE,convE,okNil,builtE,gv,TD.isAgg,resV,↓reduceIte,Nat.reduceEqDiff,reduceCtorEq,Nat.reduceAdd,Nat.reduceMul,Nat.reduceLeDiff,quietOp,blindOp,Int.reduceEq,Int.reduceLT,Int.reduceLE,Nat.reduceLT,ti2,ti3,ti4,ti41,ti42,ti62,ti22,ti45,ti37,ti47,ti39,ti74,ti138,ti101,ti103,ti108,ti24,ti28,ti96, h1]
      refine ⟨by omega, Up.refl _ _⟩

theorem szInt64S_c (v : Value) (n : Nat) (l : List Int) (left : Int) (H : AH) (hv : Rd 1 H v n l) (hl : 0 ≤ left ∧ left ≤ 1048576) (hn : n ≤ 9223372036854775807) :
    ACalls Try.prog 53 [v, .int .i64 left] H (is (.int .i64 (szL left n)) H) := by
  refine acalls_of_awp [.tmp 4] Try.func53 (by kernel_rfl) rfl rfl (Nat.le_of_ble_eq_true rfl) (by kernel_rfl) ?_
  by_cases h : left - n < 0
  · try simp (disch := first | omega | (simp only [ints_length, List.length_replicate]; done) | (simp only [ints_length, List.length_replicate]; omega)) only [Sall,evalOp,init,binE,binI,unE,convE,okNil,builtE,gv,TD.isAgg,resV,↓reduceIte,Nat.reduceEqDiff,reduceCtorEq,Nat.reduceAdd,Nat.reduceMul,Nat.reduceLeDiff,quietOp,blindOp,Int.reduceEq,Int.reduceLT,Int.reduceLE,Nat.reduceLT,ti2,ti3,ti4,ti41,ti42,ti62,ti22,ti45,ti37,ti47,ti39,ti74,ti138,ti101,ti103,ti108,ti24,ti28,ti96, builtE, hv.len, w64, h, decide_true, is, szL]
  · try simp (disch := first | omega | (simp only [ints_length, List.length_replicate]; done) | (simp only [ints_length, List.length_replicate]; omega)) only [Sall,evalOp,init,binE,binI,unE,convE,okNil,builtE,gv,TD.isAgg,resV,↓reduceIte,Nat.reduceEqDiff,reduceCtorEq,Nat.reduceAdd,Nat.reduceMul,Nat.reduceLeDiff,quietOp,blindOp,Int.reduceEq,Int.reduceLT,Int.reduceLE,Nat.reduceLT,ti2,ti3,ti4,ti41,ti42,ti62,ti22,ti45,ti37,ti47,ti39,ti74,ti138,ti101,ti103,ti108,ti24,ti28,ti96, builtE, hv.len, w64, h, decide_false, is, szL]

theorem toInt64S_c (v : Value) (n : Nat) (l : List Int) (H : AH) (hv : Rd 1 H v n l) (hn : n ≤ 4194304) :
    ACalls Try.prog 60 [v] H (is (.slice (some ⟨H.next, 0, some 1⟩) n n) (H.push ⟨2, true, ints l⟩)) := by
  refine ACalls.wf (by kernel_rfl) fun hs => acalls_of_awp [.tmp 2] Try.func60 (by kernel_rfl) rfl rfl (Nat.le_of_ble_eq_true rfl) (by kernel_rfl) ?_
  have hl := hv.lenK1
  try simp (disch := first | omega | (simp only [ints_length, List.length_replicate]; done) | (simp only [ints_length, List.length_replicate]; omega)) only [Sall,evalOp,init,binE,binI,unE,convE,okNil,builtE,gv,TD.isAgg,resV,↓reduceIte,Nat.reduceEqDiff,reduceCtorEq,Nat.reduceAdd,Nat.reduceMul,Nat.reduceLeDiff,quietOp,blindOp,Int.reduceEq,Int.reduceLT,Int.reduceLE,Nat.reduceLT,ti2,ti3,ti4,ti41,ti42,ti62,ti22,ti45,ti37,ti47,ti39,ti74,ti138,ti101,ti103,ti108,ti24,ti28,ti96, builtE, hv.len, ints_zeros]
  refine ⟨by omega, ?_⟩
  refine awp_loop (fun m t H' => ∃ a : Nat, m = n - a ∧ a ≤ n ∧ t 4 = .int .i64 a ∧ t 0 = v ∧ t 3 = .slice (some ⟨H.next, 0, some 1⟩) n n ∧ H' = H.push ⟨2, true, ints (copyL 1 l n a)⟩) n ?_ ?_
  · refine ⟨0, by omega, by omega, ?_⟩
    try simp (disch := first | omega | (simp only [ints_length, List.length_replicate]; done) | (simp only [ints_length, List.length_replicate]; omega)) only [Sall,evalOp,init,binE,binI,unE,convE,okNil,builtE,gv,TD.isAgg,resV,↓reduceIte,Nat.reduceEqDiff,reduceCtorEq,Nat.reduceAdd,Nat.reduceMul,Nat.reduceLeDiff,quietOp,blindOp,Int.reduceEq,Int.reduceLT,Int.reduceLE,Nat.reduceLT,ti2,ti3,ti4,ti41,ti42,ti62,ti22,ti45,ti37,ti47,ti39,ti74,ti138,ti101,ti103,ti108,ti24,ti28,ti96, Int.natCast_zero, copyL_zero]
  · rintro m t H' ⟨a, hm, h14, h4, h0, h3, rfl⟩
    try simp (disch := first | omega | (simp only [ints_length, List.length_replicate]; done) | (simp only [ints_length, List.length_replicate]; omega)) only [Sall,evalOp,init,binE,binI,unE,convE,okNil,builtE,gv,TD.isAgg,resV,↓reduceIte,Nat.reduceEqDiff,reduceCtorEq,Nat.reduceAdd,Nat.reduceMul,Nat.reduceLeDiff,quietOp,blindOp,Int.reduceEq,Int.reduceLT,Int.reduceLE,Nat.reduceLT,ti2,ti3,ti4,ti41,ti42,ti62,ti22,ti45,ti37,ti47,ti39,ti74,ti138,ti101,ti103,ti108,ti24,ti28,ti96, h4, h0, builtE, hv.len]
    refine condC_dec (fun h => ?_) (fun h => ?_)
    · have hst := copyL_set l n a hl.symm (by omega)
      have hcl := copyL_length 1 l n a (by omega) (by omega)
      rw [Nat.mul_one] at hcl
      obtain ⟨i, o, u, c, r, rfl, hr, hc, hs1, hg⟩ := hv.get (by omega)
      have hne : ¬ i = H.next := by have := hs _ _ hr; omega
      try simp (disch := first | omega | (simp only [ints_length, List.length_replicate]; done) | (simp only [ints_length, List.length_replicate]; omega)) only [Sall,evalOp,init,binE,binI,unE,convE,okNil,builtE,gv,TD.isAgg,resV,↓reduceIte,Nat.reduceEqDiff,reduceCtorEq,Nat.reduceAdd,Nat.reduceMul,Nat.reduceLeDiff,quietOp,blindOp,Int.reduceEq,Int.reduceLT,Int.reduceLE,Nat.reduceLT,ti2,ti3,ti4,ti41,ti42,ti62,ti22,ti45,ti37,ti47,ti39,ti74,ti138,ti101,ti103,ti108,ti24,ti28,ti96, h4, h0, h3, hr, hne, hs1, ints_set, hst, hcl, push_setCells, w64]
      refine ⟨⟨by omega, by omega⟩, ⟨by omega, by omega⟩, by omega, n - (a + 1), by omega, a + 1, ?_⟩
      and_intros <;> first | omega | rfl | assumption
    · have ha : a = n := by omega
      subst ha
      try simp (disch := first | omega | (simp only [ints_length, List.length_replicate]; done) | (simp only [ints_length, List.length_replicate]; omega)) only [Sall,evalOp,init,binE,binI,unE,convE,okNil,builtE,gv,TD.isAgg,resV,↓reduceIte,Nat.reduceEqDiff,reduceCtorEq,Nat.reduceAdd,Nat.reduceMul,Nat.reduceLeDiff,quietOp,blindOp,Int.reduceEq,Int.reduceLT,Int.reduceLE,Nat.reduceLT,ti2,ti3,ti4,ti41,ti42,ti62,ti22,ti45,ti37,ti47,ti39,ti74,ti138,ti101,ti103,ti108,ti24,ti28,ti96, h3, is]
      rw [copyL_all 1 l a (by omega)]

theorem szInt64SS_c (v : Value) (ll : List (List Int)) (left : Int) (H : AH) (hv : Rd2 1 H v ll) (hl : 0 ≤ left ∧ left ≤ 1048576) (hn : ll.length ≤ 9223372036854775807) (hn2 : ∀ l ∈ ll, l.length ≤ 9223372036854775807) :
    ACalls Try.prog 23 [v, .int .i64 left] H (fun r H' => ∃ x : Int, r = .int .i64 x ∧ H' = H ∧ (0 ≤ x → (ll.length : Int) + tot ll + x = left)) := by
  refine acalls_of_awp [.tmp 4] Try.func23 (by kernel_rfl) rfl rfl (Nat.le_of_ble_eq_true rfl) (by kernel_rfl) ?_
  by_cases h0 : left - (ll.length : Int) < 0
  · try simp (disch := first | omega | (simp only [ints_length, List.length_replicate]; done) | (simp only [ints_length, List.length_replicate]; omega)) only [Sall,evalOp,init,binE,binI,unE,convE,okNil,builtE,gv,TD.isAgg,resV,↓reduceIte,Nat.reduceEqDiff,reduceCtorEq,Nat.reduceAdd,Nat.reduceMul,Nat.reduceLeDiff,quietOp,blindOp,Int.reduceEq,Int.reduceLT,Int.reduceLE,Nat.reduceLT,ti2,ti3,ti4,ti41,ti42,ti62,ti22,ti45,ti37,ti47,ti39,ti74,ti138,ti101,ti103,ti108,ti24,ti28,ti96, builtE, hv.len, w64, h0, decide_true]
    exact fun h => h.elim
  · try simp (disch := first | omega | (simp only [ints_length, List.length_replicate]; done) | (simp only [ints_length, List.length_replicate]; omega)) only [Sall,evalOp,init,binE,binI,unE,convE,okNil,builtE,gv,TD.isAgg,resV,↓reduceIte,Nat.reduceEqDiff,reduceCtorEq,Nat.reduceAdd,Nat.reduceMul,Nat.reduceLeDiff,quietOp,blindOp,Int.reduceEq,Int.reduceLT,Int.reduceLE,Nat.reduceLT,ti2,ti3,ti4,ti41,ti42,ti62,ti22,ti45,ti37,ti47,ti39,ti74,ti138,ti101,ti103,ti108,ti24,ti28,ti96, builtE, hv.len, w64, h0, decide_false]
    refine awp_loop (fun x t H' => ∃ a : Nat, x = ll.length - a ∧ a ≤ ll.length ∧ t 5 = .int .i64 a ∧ t 0 = v ∧ t 1 = .int .i64 (left - ll.length - tot (ll.take a)) ∧ 0 ≤ left - ll.length - tot (ll.take a) ∧ H' = H) ll.length ?_ ?_
    · refine ⟨0, by omega, by omega, ?_⟩
      try simp (disch := first | omega | (simp only [ints_length, List.length_replicate]; done) | (simp only [ints_length, List.length_replicate]; omega)) only [Sall,evalOp,init,binE,binI,unE,convE,okNil,builtE,gv,TD.isAgg,resV,↓reduceIte,Nat.reduceEqDiff,reduceCtorEq,Nat.reduceAdd,Nat.reduceMul,Nat.reduceLeDiff,quietOp,blindOp,Int.reduceEq,Int.reduceLT,Int.reduceLE,Nat.reduceLT,ti2,ti3,ti4,ti41,ti42,ti62,ti22,ti45,ti37,ti47,ti39,ti74,ti138,ti101,ti103,ti108,ti24,ti28,ti96, Int.natCast_zero]
      refine ⟨by simp [tot], by simp [tot]; omega⟩
    · rintro x t H' ⟨a, hm, h14, h5, h0', h1, hnn, rfl⟩
      try simp (disch := first | omega | (simp only [ints_length, List.length_replicate]; done) | (simp only [ints_length, List.length_replicate]; omega)) only [Sall,evalOp,init,binE,binI,unE,convE,okNil,builtE,gv,TD.isAgg,resV,↓reduceIte,Nat.reduceEqDiff,reduceCtorEq,Nat.reduceAdd,Nat.reduceMul,Nat.reduceLeDiff,quietOp,blindOp,Int.reduceEq,Int.reduceLT,Int.reduceLE,Nat.reduceLT,ti2,ti3,ti4,ti41,ti42,ti62,ti22,ti45,ti37,ti47,ti39,ti74,ti138,ti101,ti103,ti108,ti24,ti28,ti96, h5, h0', builtE, hv.len]
      refine condC_dec (fun h => ?_) (fun h => ?_)
      · obtain ⟨i, o, u, c, r, y, m, rfl, hr, hy, hs, hk⟩ := hv.get (j := a) (by omega)
        have hml := hn2 _ (getD_mem (ll := ll) (a := a) (by omega))
        have hmm := hs.lenK1
        have ht := tot_take_succ ll a (by omega)
        try simp (disch := first | omega | (simp only [ints_length, List.length_replicate]; done) | (simp only [ints_length, List.length_replicate]; omega)) only [Sall,evalOp,init,binE,binI,unE,convE,okNil,builtE,gv,TD.isAgg,resV,↓reduceIte,Nat.reduceEqDiff,reduceCtorEq,Nat.reduceAdd,Nat.reduceMul,Nat.reduceLeDiff,quietOp,blindOp,Int.reduceEq,Int.reduceLT,Int.reduceLE,Nat.reduceLT,ti2,ti3,ti4,ti41,ti42,ti62,ti22,ti45,ti37,ti47,ti39,ti74,ti138,ti101,ti103,ti108,ti24,ti28,ti96, h5, h0', h1, hr, hy, hk]
        refine ⟨⟨by omega, by omega⟩, (szInt64S_c y m _ _ _ hs ⟨hnn, by omega⟩ (by omega)).to ?_⟩
        by_cases hz : left - (ll.length : Int) - (tot (ll.take a) : Int) - (m : Int) < 0
        · have e : szL (left - (ll.length : Int) - (tot (ll.take a) : Int)) m = -1 := by unfold szL; rw [if_pos hz]
          try simp (disch := first | omega | (simp only [ints_length, List.length_replicate]; done) | (simp only [ints_length, List.length_replicate]; omega)) only [Sall,evalOp,init,binE,binI,unE,convE,okNil,builtE,gv,TD.isAgg,resV,↓reduceIte,Nat.reduceEqDiff,reduceCtorEq,Nat.reduceAdd,Nat.reduceMul,Nat.reduceLeDiff,quietOp,blindOp,Int.reduceEq,Int.reduceLT,Int.reduceLE,Nat.reduceLT,ti2,ti3,ti4,ti41,ti42,ti62,ti22,ti45,ti37,ti47,ti39,ti74,ti138,ti101,ti103,ti108,ti24,ti28,ti96, e, decide_true]
          exact fun h => h.elim
        · have e : szL (left - (ll.length : Int) - (tot (ll.take a) : Int)) m = left - (ll.length : Int) - (tot (ll.take a) : Int) - m := by unfold szL; rw [if_neg hz]
          try simp (disch := first | omega | (simp only [ints_length, List.length_replicate]; done) | (simp only [ints_length, List.length_replicate]; omega)) only [Sall,evalOp,init,binE,binI,unE,convE,okNil,builtE,gv,TD.isAgg,resV,↓reduceIte,Nat.reduceEqDiff,reduceCtorEq,Nat.reduceAdd,Nat.reduceMul,Nat.reduceLeDiff,quietOp,blindOp,Int.reduceEq,Int.reduceLT,Int.reduceLE,Nat.reduceLT,ti2,ti3,ti4,ti41,ti42,ti62,ti22,ti45,ti37,ti47,ti39,ti74,ti138,ti101,ti103,ti108,ti24,ti28,ti96, e, hz, decide_false, h5, h0', w64]
          refine ⟨ll.length - (a + 1), by omega, a + 1, ?_⟩
          and_intros <;> first | omega | rfl | assumption
      · have ha : a = ll.length := by omega
        subst ha
        try simp (disch := first | omega | (simp only [ints_length, List.length_replicate]; done) | (simp only [ints_length, List.length_replicate]; omega)) only [Sall,evalOp,init,binE,binI,unE,convE,okNil,builtE,gv,TD.isAgg,resV,↓reduceIte,Nat.reduceEqDiff,reduceCtorEq,Nat.reduceAdd,Nat.reduceMul,Nat.reduceLeDiff,quietOp,blindOp,Int.reduceEq,Int.reduceLT,Int.reduceLE,Nat.reduceLT,ti2,ti3,ti4,ti41,ti42,ti62,ti22,ti45,ti37,ti47,ti39,ti74,ti138,ti101,ti103,ti108,ti24,ti28,ti96, h1]
        rw [List.take_length]
        exact fun _ => by omega

theorem toInt64SS_c (v : Value) (ll : List (List Int)) (H : AH) (hv : Rd2 1 H v ll) (hn : ll.length ≤ 4194304) (hn2 : ∀ l ∈ ll, l.length ≤ 4194304) :
    ACalls Try.prog 26 [v] H (fun u H' => Up H.next H H' ∧ Fr2 1 62 2 H.next H'.next H' u ll) := by
  refine ACalls.wf (by kernel_rfl) fun hs => acalls_of_awp [.tmp 2] Try.func26 (by kernel_rfl) rfl rfl (Nat.le_of_ble_eq_true rfl) (by kernel_rfl) ?_
  try simp (disch := first | omega | (simp only [ints_length, List.length_replicate]; done) | (simp only [ints_length, List.length_replicate]; omega)) only [Sall,evalOp,init,binE,binI,unE,convE,okNil,builtE,gv,TD.isAgg,resV,↓reduceIte,Nat.reduceEqDiff,reduceCtorEq,Nat.reduceAdd,Nat.reduceMul,Nat.reduceLeDiff,quietOp,blindOp,Int.reduceEq,Int.reduceLT,Int.reduceLE,Nat.reduceLT,ti2,ti3,ti4,ti41,ti42,ti62,ti22,ti45,ti37,ti47,ti39,ti74,ti138,ti101,ti103,ti108,ti24,ti28,ti96, builtE, hv.len]
  refine ⟨by omega, ?_⟩
  refine awp_loop (fun m t H' => ∃ (a : Nat) (vs : List Value) (b : Nat → Nat), m = ll.length - a ∧ a ≤ ll.length ∧ t 4 = .int .i64 a ∧ t 0 = v ∧ t 3 = .slice (some ⟨H.next, 0, some 1⟩) ll.length ll.length ∧ Up H.next H H' ∧ H'.row H.next = some ⟨62, true, vs⟩ ∧ vs.length = ll.length ∧
    b 0 = H.next + 1 ∧ b a = H'.next ∧ (∀ j, b j ≤ b (j + 1)) ∧ ∀ j, j < a → ∃ x m, vs[j]? = some x ∧ Fr 1 2 (b j) (b (j + 1)) H' x m (ll.getD j [])) ll.length ?_ ?_
  · refine ⟨0, List.replicate ll.length (.slice none 0 0), fun j => H.next + 1, by omega, by omega, ?_⟩
    try simp (disch := first | omega | (simp only [ints_length, List.length_replicate]; done) | (simp only [ints_length, List.length_replicate]; omega)) only [Sall,evalOp,init,binE,binI,unE,convE,okNil,builtE,gv,TD.isAgg,resV,↓reduceIte,Nat.reduceEqDiff,reduceCtorEq,Nat.reduceAdd,Nat.reduceMul,Nat.reduceLeDiff,quietOp,blindOp,Int.reduceEq,Int.reduceLT,Int.reduceLE,Nat.reduceLT,ti2,ti3,ti4,ti41,ti42,ti62,ti22,ti45,ti37,ti47,ti39,ti74,ti138,ti101,ti103,ti108,ti24,ti28,ti96, Int.natCast_zero, zeros_nil, Nat.not_lt_zero, false_implies]
    exact (Up.refl _ H).push (Nat.le_refl _) _
  · rintro m t H' ⟨a, vs, b, hm, h14, h4, h0, h3, hup, hr1, hvl, hb0, hba, hbm, hall⟩
    try simp (disch := first | omega | (simp only [ints_length, List.length_replicate]; done) | (simp only [ints_length, List.length_replicate]; omega)) only [Sall,evalOp,init,binE,binI,unE,convE,okNil,builtE,gv,TD.isAgg,resV,↓reduceIte,Nat.reduceEqDiff,reduceCtorEq,Nat.reduceAdd,Nat.reduceMul,Nat.reduceLeDiff,quietOp,blindOp,Int.reduceEq,Int.reduceLT,Int.reduceLE,Nat.reduceLT,ti2,ti3,ti4,ti41,ti42,ti62,ti22,ti45,ti37,ti47,ti39,ti74,ti138,ti101,ti103,ti108,ti24,ti28,ti96, h4, h0, builtE, hv.len]
    refine condC_dec (fun h => ?_) (fun h => ?_)
    · obtain ⟨i, o, u, c, r, y, m', rfl, hr, hy, hsx, hk⟩ := hv.get (j := a) (by omega)
      have hil := hs _ _ hr
      have hr' : H'.row i = some r := by rw [hup.row i hil, hr]
      have hy' : Rd 1 H' y m' (ll.getD a []) := hsx.same fun x q hx => by rw [hup.row x (hs _ _ hx), hx]
      have hml := hn2 _ (getD_mem (ll := ll) (a := a) (by omega))
      have hmm := hsx.lenK1
      try simp (disch := first | omega | (simp only [ints_length, List.length_replicate]; done) | (simp only [ints_length, List.length_replicate]; omega)) only [Sall,evalOp,init,binE,binI,unE,convE,okNil,builtE,gv,TD.isAgg,resV,↓reduceIte,Nat.reduceEqDiff,reduceCtorEq,Nat.reduceAdd,Nat.reduceMul,Nat.reduceLeDiff,quietOp,blindOp,Int.reduceEq,Int.reduceLT,Int.reduceLE,Nat.reduceLT,ti2,ti3,ti4,ti41,ti42,ti62,ti22,ti45,ti37,ti47,ti39,ti74,ti138,ti101,ti103,ti108,ti24,ti28,ti96, h4, h0, h3, hr', hy, hk]
      refine ⟨⟨by omega, by omega⟩, (toInt64S_c y m' _ H' hy' (by omega)).to ?_⟩
      have n1 := hup.next
      have m1 := mono_of_step hbm (Nat.zero_le a)
      have hne : ¬ H.next = H'.next := by omega
      try simp (disch := first | omega | (simp only [ints_length, List.length_replicate]; done) | (simp only [ints_length, List.length_replicate]; omega)) only [Sall,evalOp,init,binE,binI,unE,convE,okNil,builtE,gv,TD.isAgg,resV,↓reduceIte,Nat.reduceEqDiff,reduceCtorEq,Nat.reduceAdd,Nat.reduceMul,Nat.reduceLeDiff,quietOp,blindOp,Int.reduceEq,Int.reduceLT,Int.reduceLE,Nat.reduceLT,ti2,ti3,ti4,ti41,ti42,ti62,ti22,ti45,ti37,ti47,ti39,ti74,ti138,ti101,ti103,ti108,ti24,ti28,ti96, h4, h0, h3, hr1, hne, hvl, w64]
      refine ⟨⟨by omega, by omega⟩, by omega, ll.length - (a + 1), by omega, a + 1, vs.set a (.slice (some ⟨H'.next, 0, some 1⟩) m' m'), fun j => if j ≤ a then b j else H'.next + 1, rfl, by omega, by omega, ?_, rfl, by rw [List.length_set, hvl], by dsimp only; rw [if_pos (Nat.zero_le _), hb0], by dsimp only; rw [if_neg (by omega)], fun j => ?_, fun j hj => ?_⟩
      · exact (hup.push (by omega) _).set (Nat.le_refl _) _
      · dsimp only
        by_cases h1 : j + 1 ≤ a
        · rw [if_pos (by omega), if_pos h1]; exact hbm j
        · rw [if_neg h1]; split
          · rw [show j = a by omega, hba]; omega
          · omega
      · by_cases hja : j = a
        · subst hja
          refine ⟨_, m', by rw [List.getElem?_set_self (by omega)], ?_⟩
          dsimp only
          rw [if_pos (Nat.le_refl _), if_neg (by omega), hba]
          exact ⟨by omega, .inr ⟨H'.next, Nat.le_refl _, Nat.lt_succ_self _, rfl, by rw [AH.setCells_row, if_neg (by omega), AH.push_row, if_pos rfl]⟩⟩
        · obtain ⟨x, q, hx, hf⟩ := hall j (by omega)
          refine ⟨x, q, by rw [List.getElem?_set_ne (by omega), hx], ?_⟩
          dsimp only
          rw [if_pos (by omega), if_pos (by omega)]
          have m2 := mono_of_step hbm (show j + 1 ≤ a by omega)
          have m3 := mono_of_step hbm (Nat.zero_le j)
          refine hf.same fun z z1 z2 => ?_
          rw [AH.setCells_row, if_neg (by omega), AH.push_row, if_neg (by omega)]
    · have ha : a = ll.length := by omega
      subst ha
      try simp (disch := first | omega | (simp only [ints_length, List.length_replicate]; done) | (simp only [ints_length, List.length_replicate]; omega)) only [Sall,evalOp,init,binE,binI,unE,convE,okNil,builtE,gv,TD.isAgg,resV,↓reduceIte,Nat.reduceEqDiff,reduceCtorEq,Nat.reduceAdd,Nat.reduceMul,Nat.reduceLeDiff,quietOp,blindOp,Int.reduceEq,Int.reduceLT,Int.reduceLE,Nat.reduceLT,ti2,ti3,ti4,ti41,ti42,ti62,ti22,ti45,ti37,ti47,ti39,ti74,ti138,ti101,ti103,ti108,ti24,ti28,ti96, h3]
      refine ⟨hup, .inr ⟨H.next, vs, b, Nat.le_refl _, ?_, rfl, hr1, hvl, by omega, by omega, .inl (by omega), hbm, hall⟩⟩
      have m1 := mono_of_step hbm (Nat.zero_le ll.length)
      omega

/-- The marked lists: numbers one behind the other, from list to list. -/
def seqLL (k0 : Int) (ll : List (List Int)) : List (List Int) := (List.range ll.length).map fun j => seqL (k0 + tot (ll.take j)) (ll.getD j []).length
theorem seqLL_length (k0 : Int) (ll : List (List Int)) : (seqLL k0 ll).length = ll.length := by simp [seqLL]
theorem seqLL_getD (k0 : Int) (ll : List (List Int)) (j : Nat) (h : j < ll.length) : (seqLL k0 ll).getD j [] = seqL (k0 + tot (ll.take j)) (ll.getD j []).length := by simp [seqLL, h]

theorem heldInt64SS_c (v : Value) (ll : List (List Int)) (k0 : Int) (hk0 : 0 ≤ k0 ∧ k0 ≤ 268435456) (hn : ll.length ≤ 4194304) (ht0 : tot ll ≤ 4194304) (H : AH) (hv : Rd2 1 H v (seqLL k0 ll)) :
    ACalls Try.prog 17 [v, .int .i64 k0] H (is (.int .i64 (k0 + tot ll)) H) := by
  refine acalls_up rfl (acalls_of_awp [.tmp 4] Try.func17 (by kernel_rfl) rfl rfl (Nat.le_of_ble_eq_true rfl) (by kernel_rfl) ?_)
  have hlen := seqLL_length k0 ll
  try simp (disch := first | omega | (simp only [ints_length, List.length_replicate]; done) | (simp only [ints_length, List.length_replicate]; omega)) only [Sall,evalOp,init,binE,binI,unE,convE,okNil,builtE,gv,TD.isAgg,resV,↓reduceIte,Nat.reduceEqDiff,reduceCtorEq,Nat.reduceAdd,Nat.reduceMul,Nat.reduceLeDiff,quietOp,blindOp,Int.reduceEq,Int.reduceLT,Int.reduceLE,Nat.reduceLT,ti2,ti3,ti4,ti41,ti42,ti62,ti22,ti45,ti37,ti47,ti39,ti74,ti138,ti101,ti103,ti108,ti24,ti28,ti96, true_and]
  refine awp_loop (fun x t H' => ∃ a : Nat, x = ll.length - a ∧ a ≤ ll.length ∧ t 5 = .int .i64 a ∧ t 0 = v ∧ t 1 = .int .i64 (k0 + tot (ll.take a)) ∧ H' = H) ll.length ?_ ?_
  · refine ⟨0, by omega, by omega, ?_⟩
    try simp (disch := first | omega | (simp only [ints_length, List.length_replicate]; done) | (simp only [ints_length, List.length_replicate]; omega)) only [Sall,evalOp,init,binE,binI,unE,convE,okNil,builtE,gv,TD.isAgg,resV,↓reduceIte,Nat.reduceEqDiff,reduceCtorEq,Nat.reduceAdd,Nat.reduceMul,Nat.reduceLeDiff,quietOp,blindOp,Int.reduceEq,Int.reduceLT,Int.reduceLE,Nat.reduceLT,ti2,ti3,ti4,ti41,ti42,ti62,ti22,ti45,ti37,ti47,ti39,ti74,ti138,ti101,ti103,ti108,ti24,ti28,ti96, Int.natCast_zero]
    simp [tot]
  · rintro x t H' ⟨a, hm, h14, h5, h0, h1, rfl⟩
    have hle := hv.len
    rw [hlen] at hle
    try simp (disch := first | omega | (simp only [ints_length, List.length_replicate]; done) | (simp only [ints_length, List.length_replicate]; omega)) only [Sall,evalOp,init,binE,binI,unE,convE,okNil,builtE,gv,TD.isAgg,resV,↓reduceIte,Nat.reduceEqDiff,reduceCtorEq,Nat.reduceAdd,Nat.reduceMul,Nat.reduceLeDiff,quietOp,blindOp,Int.reduceEq,Int.reduceLT,Int.reduceLE,Nat.reduceLT,ti2,ti3,ti4,ti41,ti42,ti62,ti22,ti45,ti37,ti47,ti39,ti74,ti138,ti101,ti103,ti108,ti24,ti28,ti96, h5, h0, builtE, hle]
    refine condC_dec (fun h => ?_) (fun h => ?_)
    · obtain ⟨i, o, u, c, r, y, m, rfl, hr, hy, hs, hk⟩ := hv.get (j := a) (by omega)
      rw [seqLL_getD _ _ _ (by omega)] at hs
      have hmm := hs.lenK1
      rw [seqL_length] at hmm
      subst hmm
      have ht := tot_take_succ ll a (by omega)
      have ht2 := tot_take_le ll (a + 1)
      try simp (disch := first | omega | (simp only [ints_length, List.length_replicate]; done) | (simp only [ints_length, List.length_replicate]; omega)) only [Sall,evalOp,init,binE,binI,unE,convE,okNil,builtE,gv,TD.isAgg,resV,↓reduceIte,Nat.reduceEqDiff,reduceCtorEq,Nat.reduceAdd,Nat.reduceMul,Nat.reduceLeDiff,quietOp,blindOp,Int.reduceEq,Int.reduceLT,Int.reduceLE,Nat.reduceLT,ti2,ti3,ti4,ti41,ti42,ti62,ti22,ti45,ti37,ti47,ti39,ti74,ti138,ti101,ti103,ti108,ti24,ti28,ti96, h5, h0, h1, hr, hy, hk, hlen]
      refine ⟨⟨by omega, by omega⟩, (heldInt64S_c y _ _ (by omega) (by omega) _ hs).to ?_⟩
      try simp (disch := first | omega | (simp only [ints_length, List.length_replicate]; done) | (simp only [ints_length, List.length_replicate]; omega)) only [Sall,evalOp,init,binE,binI,unE,convE,okNil,builtE,gv,TD.isAgg,resV,↓reduceIte,Nat.reduceEqDiff,reduceCtorEq,Nat.reduceAdd,Nat.reduceMul,Nat.reduceLeDiff,quietOp,blindOp,Int.reduceEq,Int.reduceLT,Int.reduceLE,Nat.reduceLT,ti2,ti3,ti4,ti41,ti42,ti62,ti22,ti45,ti37,ti47,ti39,ti74,ti138,ti101,ti103,ti108,ti24,ti28,ti96, true_and]
      rw [decide_eq_false (by omega)]
      try simp (disch := first | omega | (simp only [ints_length, List.length_replicate]; done) | (simp only [ints_length, List.length_replicate]; omega)) only [Sall,evalOp,init,binE,binI,unE,convE,okNil,builtE,gv,TD.isAgg,resV,↓reduceIte,Nat.reduceEqDiff,reduceCtorEq,Nat.reduceAdd,Nat.reduceMul,Nat.reduceLeDiff,quietOp,blindOp,Int.reduceEq,Int.reduceLT,Int.reduceLE,Nat.reduceLT,ti2,ti3,ti4,ti41,ti42,ti62,ti22,ti45,ti37,ti47,ti39,ti74,ti138,ti101,ti103,ti108,ti24,ti28,ti96, h5, h0, w64]
      refine ⟨ll.length - (a + 1), by omega, a + 1, ?_⟩
      and_intros <;> first | omega | rfl | assumption
    · have ha : a = ll.length := by omega
      subst ha
      try simp (disch := first | omega | (simp only [ints_length, List.length_replicate]; done) | (simp only [ints_length, List.length_replicate]; omega)) only [Sall,evalOp,init,binE,binI,unE,convE,okNil,builtE,gv,TD.isAgg,resV,↓reduceIte,Nat.reduceEqDiff,reduceCtorEq,Nat.reduceAdd,Nat.reduceMul,Nat.reduceLeDiff,quietOp,blindOp,Int.reduceEq,Int.reduceLT,Int.reduceLE,Nat.reduceLT,ti2,ti3,ti4,ti41,ti42,ti62,ti22,ti45,ti37,ti47,ti39,ti74,ti138,ti101,ti103,ti108,ti24,ti28,ti96, h1]
      rw [List.take_length]
      exact ⟨rfl, Up.refl _ _⟩

theorem markInt64SS_c (ty ty' lo hi : Nat) (v : Value) (ll : List (List Int)) (k0 : Int) (hk0 : 0 ≤ k0 ∧ k0 ≤ 268435456) (hn : ll.length ≤ 4194304) (ht0 : tot ll ≤ 4194304) (H : AH) (hv : Fr2 1 ty ty' lo hi H v ll) :
    ACalls Try.prog 16 [v, .int .i64 k0] H (fun r H' => r = .int .i64 (k0 + tot ll) ∧ H'.next = H.next ∧ (∀ i, ¬(lo ≤ i ∧ i < hi) → H'.row i = H.row i) ∧ Fr2 1 ty ty' lo hi H' v (seqLL k0 ll)) := by
  refine acalls_of_awp [.tmp 4] Try.func16 (by kernel_rfl) rfl rfl (Nat.le_of_ble_eq_true rfl) (by kernel_rfl) ?_
  try simp (disch := first | omega | (simp only [ints_length, List.length_replicate]; done) | (simp only [ints_length, List.length_replicate]; omega)) only [Sall,evalOp,init,binE,binI,unE,convE,okNil,builtE,gv,TD.isAgg,resV,↓reduceIte,Nat.reduceEqDiff,reduceCtorEq,Nat.reduceAdd,Nat.reduceMul,Nat.reduceLeDiff,quietOp,blindOp,Int.reduceEq,Int.reduceLT,Int.reduceLE,Nat.reduceLT,ti2,ti3,ti4,ti41,ti42,ti62,ti22,ti45,ti37,ti47,ti39,ti74,ti138,ti101,ti103,ti108,ti24,ti28,ti96, true_and]
  refine Holds.mp ?_
  rcases hv with ⟨rfl, rfl⟩ | ⟨i, vs, b, g1, g2, rfl, hr, hvl, gb0, gbn, gi, gbm, hall⟩
  · rw [holds_def]
    refine awp_loop (fun x t H' => t 5 = .int .i64 0 ∧ t 0 = .slice none 0 0 ∧ t 1 = .int .i64 k0 ∧ H' = H) 0 ?_ ?_
    · try simp (disch := first | omega | (simp only [ints_length, List.length_replicate]; done) | (simp only [ints_length, List.length_replicate]; omega)) only [Sall,evalOp,init,binE,binI,unE,convE,okNil,builtE,gv,TD.isAgg,resV,↓reduceIte,Nat.reduceEqDiff,reduceCtorEq,Nat.reduceAdd,Nat.reduceMul,Nat.reduceLeDiff,quietOp,blindOp,Int.reduceEq,Int.reduceLT,Int.reduceLE,Nat.reduceLT,ti2,ti3,ti4,ti41,ti42,ti62,ti22,ti45,ti37,ti47,ti39,ti74,ti138,ti101,ti103,ti108,ti24,ti28,ti96, true_and]
    · rintro x t H' ⟨h5, h0, h1, rfl⟩
      try simp (disch := first | omega | (simp only [ints_length, List.length_replicate]; done) | (simp only [ints_length, List.length_replicate]; omega)) only [Sall,evalOp,init,binE,binI,unE,convE,okNil,builtE,gv,TD.isAgg,resV,↓reduceIte,Nat.reduceEqDiff,reduceCtorEq,Nat.reduceAdd,Nat.reduceMul,Nat.reduceLeDiff,quietOp,blindOp,Int.reduceEq,Int.reduceLT,Int.reduceLE,Nat.reduceLT,ti2,ti3,ti4,ti41,ti42,ti62,ti22,ti45,ti37,ti47,ti39,ti74,ti138,ti101,ti103,ti108,ti24,ti28,ti96, h5, h0, h1, builtE, Int.lt_irrefl, decide_false]
      exact ⟨by simp [tot], .inl ⟨rfl, rfl⟩⟩
  · rw [holds_def]
    refine awp_loop (fun x t H' => ∃ a : Nat, x = ll.length - a ∧ a ≤ ll.length ∧ t 5 = .int .i64 a ∧ t 0 = .slice (some ⟨i, 0, some 1⟩) ll.length ll.length ∧ t 1 = .int .i64 (k0 + tot (ll.take a)) ∧ H'.next = H.next ∧ (∀ i, ¬(lo ≤ i ∧ i < hi) → H'.row i = H.row i) ∧ H'.row i = some ⟨ty, true, vs⟩ ∧
        ∀ j, j < ll.length → ∃ x m, vs[j]? = some x ∧ Fr 1 ty' (b j) (b (j + 1)) H' x m (if j < a then seqL (k0 + tot (ll.take j)) (ll.getD j []).length else ll.getD j [])) ll.length ?_ ?_
    · refine ⟨0, by omega, by omega, ?_⟩
      try simp (disch := first | omega | (simp only [ints_length, List.length_replicate]; done) | (simp only [ints_length, List.length_replicate]; omega)) only [Sall,evalOp,init,binE,binI,unE,convE,okNil,builtE,gv,TD.isAgg,resV,↓reduceIte,Nat.reduceEqDiff,reduceCtorEq,Nat.reduceAdd,Nat.reduceMul,Nat.reduceLeDiff,quietOp,blindOp,Int.reduceEq,Int.reduceLT,Int.reduceLE,Nat.reduceLT,ti2,ti3,ti4,ti41,ti42,ti62,ti22,ti45,ti37,ti47,ti39,ti74,ti138,ti101,ti103,ti108,ti24,ti28,ti96, Int.natCast_zero]
      refine ⟨by simp [tot], hr, fun j hj => ?_⟩
      rw [if_neg (by omega)]; exact hall j hj
    · rintro x t H' ⟨a, hm, h14, h5, h0, h1, hnx, hsm, hr', hal⟩
      try simp (disch := first | omega | (simp only [ints_length, List.length_replicate]; done) | (simp only [ints_length, List.length_replicate]; omega)) only [Sall,evalOp,init,binE,binI,unE,convE,okNil,builtE,gv,TD.isAgg,resV,↓reduceIte,Nat.reduceEqDiff,reduceCtorEq,Nat.reduceAdd,Nat.reduceMul,Nat.reduceLeDiff,quietOp,blindOp,Int.reduceEq,Int.reduceLT,Int.reduceLE,Nat.reduceLT,ti2,ti3,ti4,ti41,ti42,ti62,ti22,ti45,ti37,ti47,ti39,ti74,ti138,ti101,ti103,ti108,ti24,ti28,ti96, h5, h0, builtE]
      refine condC_dec (fun h => ?_) (fun h => ?_)
      · obtain ⟨y, m, hy, hf⟩ := hal a (by omega)
        rw [if_neg (by omega)] at hf
        have hmm := hf.lenK1
        have ht := tot_take_succ ll a (by omega)
        have ht2 := tot_take_le ll (a + 1)
        try simp (disch := first | omega | (simp only [ints_length, List.length_replicate]; done) | (simp only [ints_length, List.length_replicate]; omega)) only [Sall,evalOp,init,binE,binI,unE,convE,okNil,builtE,gv,TD.isAgg,resV,↓reduceIte,Nat.reduceEqDiff,reduceCtorEq,Nat.reduceAdd,Nat.reduceMul,Nat.reduceLeDiff,quietOp,blindOp,Int.reduceEq,Int.reduceLT,Int.reduceLE,Nat.reduceLT,ti2,ti3,ti4,ti41,ti42,ti62,ti22,ti45,ti37,ti47,ti39,ti74,ti138,ti101,ti103,ti108,ti24,ti28,ti96, h5, h0, h1, hr', hy]
        refine ⟨⟨by omega, by omega⟩, (markInt64S_c ty' (b a) (b (a + 1)) y m _ _ (by omega) (by omega) H' hf).fin ?_⟩
        rintro H'' ⟨hnx2, hsm2, hf2⟩
        have c1 := mono_of_step gbm (Nat.zero_le a)
        have c2 := mono_of_step gbm (show a + 1 ≤ ll.length by omega)
        try simp (disch := first | omega | (simp only [ints_length, List.length_replicate]; done) | (simp only [ints_length, List.length_replicate]; omega)) only [Sall,evalOp,init,binE,binI,unE,convE,okNil,builtE,gv,TD.isAgg,resV,↓reduceIte,Nat.reduceEqDiff,reduceCtorEq,Nat.reduceAdd,Nat.reduceMul,Nat.reduceLeDiff,quietOp,blindOp,Int.reduceEq,Int.reduceLT,Int.reduceLE,Nat.reduceLT,ti2,ti3,ti4,ti41,ti42,ti62,ti22,ti45,ti37,ti47,ti39,ti74,ti138,ti101,ti103,ti108,ti24,ti28,ti96, h5, h0, w64]
        refine ⟨ll.length - (a + 1), by omega, a + 1, rfl, by omega, by omega, by omega, by rw [hnx2, hnx], fun z hz => ?_, ?_, fun j hj => ?_⟩
        · rw [hsm2 z (by omega)]; exact hsm z hz
        · rw [hsm2 i (by omega)]; exact hr'
        · by_cases hja : j = a
          · subst hja
            refine ⟨y, m, hy, ?_⟩
            rw [if_pos (by omega), ← hmm]
            exact hf2
          · obtain ⟨y', m', hy', hf'⟩ := hal j hj
            refine ⟨y', m', hy', ?_⟩
            have e : (if j < a + 1 then seqL (k0 + ↑(tot (ll.take j))) (ll.getD j []).length else ll.getD j []) = (if j < a then seqL (k0 + ↑(tot (ll.take j))) (ll.getD j []).length else ll.getD j []) := by
              by_cases h1 : j < a
              · rw [if_pos (by omega), if_pos h1]
              · rw [if_neg (by omega), if_neg h1]
            rw [e]
            refine hf'.same fun z z1 z2 => hsm2 z ?_
            rcases Nat.lt_or_gt_of_ne hja with hlt | hgt
            · have := mono_of_step gbm (show j + 1 ≤ a from hlt); omega
            · have := mono_of_step gbm (show a + 1 ≤ j from hgt); omega
      · have ha : a = ll.length := by omega
        subst ha
        try simp (disch := first | omega | (simp only [ints_length, List.length_replicate]; done) | (simp only [ints_length, List.length_replicate]; omega)) only [Sall,evalOp,init,binE,binI,unE,convE,okNil,builtE,gv,TD.isAgg,resV,↓reduceIte,Nat.reduceEqDiff,reduceCtorEq,Nat.reduceAdd,Nat.reduceMul,Nat.reduceLeDiff,quietOp,blindOp,Int.reduceEq,Int.reduceLT,Int.reduceLE,Nat.reduceLT,ti2,ti3,ti4,ti41,ti42,ti62,ti22,ti45,ti37,ti47,ti39,ti74,ti138,ti101,ti103,ti108,ti24,ti28,ti96, h1]
        rw [List.take_length]
        refine ⟨rfl, hnx, hsm, .inr ⟨i, vs, b, g1, g2, by rw [seqLL_length], hr', by rw [seqLL_length, hvl], gb0, by rw [seqLL_length]; exact gbn, by rw [seqLL_length]; exact gi, gbm, fun j hj => ?_⟩⟩
        rw [seqLL_length] at hj
        obtain ⟨y, m, hy, hf⟩ := hal j hj
        rw [if_pos hj] at hf
        exact ⟨y, m, hy, by rw [seqLL_getD _ _ _ hj]; exact hf⟩
end Go.Proofs.Ytnpmidgikbbnbaa.A
end

section
set_option linter.unusedSimpArgs false
set_option linter.unusedVariables false
set_option maxRecDepth 100000
namespace Go.Proofs.Ytnpmidgikbbnbaa.A
open Go Go.Abs Go.RowKit

theorem pairs_c (n : Nat) (r : List Int) (hr : r.length = 14) (hn : n ≤ 14) (H : AH) : ACalls Try.prog 122 [.agg (ints r).toArray, .int .i64 n] H (fun v H' => Up H.next H H' ∧ Fr2 1 62 2 H.next H'.next H' v (pairsL r n)) := by
  refine acalls_of_awp [.tmp 4] Try.func122 (by kernel_rfl) rfl rfl (Nat.le_of_ble_eq_true rfl) (by kernel_rfl) ?_
  try simp (disch := first | omega | (simp only [ints_length, List.length_replicate]; done) | (simp only [ints_length, List.length_replicate]; omega)) only [Sall,evalOp,init,binE,binI,unE,convE,okNil,builtE,gv,TD.isAgg,resV,↓reduceIte,Nat.reduceEqDiff,reduceCtorEq,Nat.reduceAdd,Nat.reduceMul,Nat.reduceLeDiff,quietOp,blindOp,Int.reduceEq,Int.reduceLT,Int.reduceLE,Nat.reduceLT,ti2,ti3,ti4,ti41,ti42,ti62,ti22,ti45,ti37,ti47,ti39,ti74,ti138,ti101,ti103,ti108,ti24,ti28,ti96, zeros_zero]
  refine awp_loop (fun m t H' => ∃ (a : Nat) (u : Value) (lo hi : Nat), m = n - a ∧ a ≤ n ∧ t 9 = .int .i64 a ∧ t 8 = .int .i64 n ∧ t 5 = u ∧ t 2 = .pointer (some ⟨H.next, 0, none⟩) ∧ Up H.next H H' ∧ H'.row H.next = some ⟨42, true, ints r⟩ ∧
    H.next < lo ∧ lo ≤ hi ∧ hi ≤ H'.next ∧ Fr2 1 62 2 lo hi H' u (pairsL r a)) n ?_ ?_
  · refine ⟨0, .slice (some ⟨H.next + 1, 0, some 1⟩) 0 0, H.next + 1, H.next + 2, by omega, by omega, ?_⟩
    try simp (disch := first | omega | (simp only [ints_length, List.length_replicate]; done) | (simp only [ints_length, List.length_replicate]; omega)) only [Sall,evalOp,init,binE,binI,unE,convE,okNil,builtE,gv,TD.isAgg,resV,↓reduceIte,Nat.reduceEqDiff,reduceCtorEq,Nat.reduceAdd,Nat.reduceMul,Nat.reduceLeDiff,quietOp,blindOp,Int.reduceEq,Int.reduceLT,Int.reduceLE,Nat.reduceLT,ti2,ti3,ti4,ti41,ti42,ti62,ti22,ti45,ti37,ti47,ti39,ti74,ti138,ti101,ti103,ti108,ti24,ti28,ti96, Int.natCast_zero]
    refine ⟨((Up.refl _ H).push (by omega) _).push (Nat.le_succ _) _, by omega, by omega, ?_⟩
    exact .inr ⟨H.next + 1, [], fun _ => H.next + 2, by omega, by omega, rfl, by rw [AH.push_row, if_pos (by rw [AH.push_next])], rfl, by dsimp only; omega, by dsimp only; omega, .inl (by dsimp only; omega), fun _ => Nat.le_refl _, fun j hj => by simp [pairsL_zero] at hj⟩
  · rintro m t H' ⟨a, u, lo, hi, hm, h14, h9, h8, h5, h2, hup, hr1, hlo, hlh, hhi, hfr⟩
    try simp (disch := first | omega | (simp only [ints_length, List.length_replicate]; done) | (simp only [ints_length, List.length_replicate]; omega)) only [Sall,evalOp,init,binE,binI,unE,convE,okNil,builtE,gv,TD.isAgg,resV,↓reduceIte,Nat.reduceEqDiff,reduceCtorEq,Nat.reduceAdd,Nat.reduceMul,Nat.reduceLeDiff,quietOp,blindOp,Int.reduceEq,Int.reduceLT,Int.reduceLE,Nat.reduceLT,ti2,ti3,ti4,ti41,ti42,ti62,ti22,ti45,ti37,ti47,ti39,ti74,ti138,ti101,ti103,ti108,ti24,ti28,ti96, h9, h8]
    refine condC_dec (fun h => ?_) (fun h => ?_)
    · by_cases hp : (a : Int) < r.getD a 0
      · have hle := pairsL_le r a
        have ne1 : ¬ H.next = H'.next := by omega
        try simp (disch := first | omega | (simp only [ints_length, List.length_replicate]; done) | (simp only [ints_length, List.length_replicate]; omega)) only [Sall,evalOp,init,binE,binI,unE,convE,okNil,builtE,gv,TD.isAgg,resV,↓reduceIte,Nat.reduceEqDiff,reduceCtorEq,Nat.reduceAdd,Nat.reduceMul,Nat.reduceLeDiff,quietOp,blindOp,Int.reduceEq,Int.reduceLT,Int.reduceLE,Nat.reduceLT,ti2,ti3,ti4,ti41,ti42,ti62,ti22,ti45,ti37,ti47,ti39,ti74,ti138,ti101,ti103,ti108,ti24,ti28,ti96, h9, h8, h5, h2, hr1, ints_get?, hp, decide_true, zeros_one, zeros_two, slCells, ne1]
        refine ⟨⟨by omega, by omega⟩, ⟨by omega, by omega⟩, ?_⟩
        obtain ⟨H2, e2⟩ : ∃ H2, H2 = (H'.push ⟨2, true, [.int .i64 a, .int .i64 (r.getD a 0)]⟩).push ⟨62, true, [.slice (some ⟨H'.next, 0, some 1⟩) 2 2]⟩ := ⟨_, rfl⟩
        have n2 : H2.next = H'.next + 2 := by rw [e2]; rfl
        have s2 : ∀ i, i < H'.next → H2.row i = H'.row i := fun i hi => by rw [e2, AH.push_row, if_neg (by rw [AH.push_next]; omega), AH.push_row, if_neg (by omega)]
        have x2 : H2.row H'.next = some ⟨2, true, ints [(a : Int), r.getD a 0]⟩ := by rw [e2, AH.push_row, if_neg (by rw [AH.push_next]; omega), AH.push_row, if_pos rfl]; rfl
        rw [← e2]
        clear e2
        refine appE_fr2 (hfr.same fun i _ hi => s2 i (by omega)) (m := 2) (l := [(a : Int), r.getD a 0]) ⟨rfl, .inr ⟨H'.next, by omega, by omega, rfl, x2⟩⟩ rfl (by decide) (by omega) hlh (by omega) ?_
        intro v' H3 n3 s3 f3
        try simp (disch := first | omega | (simp only [ints_length, List.length_replicate]; done) | (simp only [ints_length, List.length_replicate]; omega)) only [Sall,evalOp,init,binE,binI,unE,convE,okNil,builtE,gv,TD.isAgg,resV,↓reduceIte,Nat.reduceEqDiff,reduceCtorEq,Nat.reduceAdd,Nat.reduceMul,Nat.reduceLeDiff,quietOp,blindOp,Int.reduceEq,Int.reduceLT,Int.reduceLE,Nat.reduceLT,ti2,ti3,ti4,ti41,ti42,ti62,ti22,ti45,ti37,ti47,ti39,ti74,ti138,ti101,ti103,ti108,ti24,ti28,ti96, h9, h8, h2, w64]
        refine ⟨n - (a + 1), by omega, a + 1, v', lo, H2.next + 1, rfl, by omega, by omega, rfl, ⟨by have := hup.next; omega, fun i hi => ?_⟩, ?_, by omega, by omega, by omega, ?_⟩
        · rw [s3 i (by omega) (by omega), s2 i (by have := hup.next; omega), hup.row i hi]
        · rw [s3 _ (by omega) (by omega), s2 _ (by omega), hr1]
        · rw [pairsL_yes r a hp]; exact f3
      · try simp (disch := first | omega | (simp only [ints_length, List.length_replicate]; done) | (simp only [ints_length, List.length_replicate]; omega)) only [Sall,evalOp,init,binE,binI,unE,convE,okNil,builtE,gv,TD.isAgg,resV,↓reduceIte,Nat.reduceEqDiff,reduceCtorEq,Nat.reduceAdd,Nat.reduceMul,Nat.reduceLeDiff,quietOp,blindOp,Int.reduceEq,Int.reduceLT,Int.reduceLE,Nat.reduceLT,ti2,ti3,ti4,ti41,ti42,ti62,ti22,ti45,ti37,ti47,ti39,ti74,ti138,ti101,ti103,ti108,ti24,ti28,ti96, h9, h8, h5, h2, hr1, ints_get?, hp, decide_false, w64]
        refine ⟨⟨by omega, by omega⟩, n - (a + 1), by omega, a + 1, u, lo, hi, rfl, by omega, by omega, ?_⟩
        rw [pairsL_no r a hp]
        and_intros <;> first | omega | rfl | assumption
    · have ha : a = n := by omega
      subst ha
      try simp (disch := first | omega | (simp only [ints_length, List.length_replicate]; done) | (simp only [ints_length, List.length_replicate]; omega)) only [Sall,evalOp,init,binE,binI,unE,convE,okNil,builtE,gv,TD.isAgg,resV,↓reduceIte,Nat.reduceEqDiff,reduceCtorEq,Nat.reduceAdd,Nat.reduceMul,Nat.reduceLeDiff,quietOp,blindOp,Int.reduceEq,Int.reduceLT,Int.reduceLE,Nat.reduceLT,ti2,ti3,ti4,ti41,ti42,ti62,ti22,ti45,ti37,ti47,ti39,ti74,ti138,ti101,ti103,ti108,ti24,ti28,ti96, h5]
      exact ⟨hup, hfr.wide (by omega) hhi⟩

theorem l01Pairs_c (n : Nat) (r : List Int) (hr : r.length = 14) (hn : n ≤ 14) (H : AH) : ACalls Try.prog 119 [.int .i64 n, .agg (ints r).toArray] H (fun v H' => Up H.next H H' ∧ Fr2 1 62 2 H.next H'.next H' v (pairsL r n)) := by
  refine acalls_of_awp [.tmp 4] Try.func119 (by kernel_rfl) rfl rfl (Nat.le_of_ble_eq_true rfl) (by kernel_rfl) ?_
  try simp (disch := first | omega | (simp only [ints_length, List.length_replicate]; done) | (simp only [ints_length, List.length_replicate]; omega)) only [Sall,evalOp,init,binE,binI,unE,convE,okNil,builtE,gv,TD.isAgg,resV,↓reduceIte,Nat.reduceEqDiff,reduceCtorEq,Nat.reduceAdd,Nat.reduceMul,Nat.reduceLeDiff,quietOp,blindOp,Int.reduceEq,Int.reduceLT,Int.reduceLE,Nat.reduceLT,ti2,ti3,ti4,ti41,ti42,ti62,ti22,ti45,ti37,ti47,ti39,ti74,ti138,ti101,ti103,ti108,ti24,ti28,ti96, zeros_zero]
  refine awp_loop (fun m t H' => ∃ (a : Nat) (u : Value) (lo hi : Nat), m = n - a ∧ a ≤ n ∧ t 6 = .int .i64 a ∧ t 0 = .int .i64 n ∧ t 5 = u ∧ t 3 = .pointer (some ⟨H.next, 0, none⟩) ∧ Up H.next H H' ∧ H'.row H.next = some ⟨42, true, ints r⟩ ∧
    H.next < lo ∧ lo ≤ hi ∧ hi ≤ H'.next ∧ Fr2 1 62 2 lo hi H' u (pairsL r a)) n ?_ ?_
  · refine ⟨0, .slice (some ⟨H.next + 1, 0, some 1⟩) 0 0, H.next + 1, H.next + 2, by omega, by omega, ?_⟩
    try simp (disch := first | omega | (simp only [ints_length, List.length_replicate]; done) | (simp only [ints_length, List.length_replicate]; omega)) only [Sall,evalOp,init,binE,binI,unE,convE,okNil,builtE,gv,TD.isAgg,resV,↓reduceIte,Nat.reduceEqDiff,reduceCtorEq,Nat.reduceAdd,Nat.reduceMul,Nat.reduceLeDiff,quietOp,blindOp,Int.reduceEq,Int.reduceLT,Int.reduceLE,Nat.reduceLT,ti2,ti3,ti4,ti41,ti42,ti62,ti22,ti45,ti37,ti47,ti39,ti74,ti138,ti101,ti103,ti108,ti24,ti28,ti96, Int.natCast_zero]
    refine ⟨((Up.refl _ H).push (by omega) _).push (Nat.le_succ _) _, by omega, by omega, ?_⟩
    exact .inr ⟨H.next + 1, [], fun _ => H.next + 2, by omega, by omega, rfl, by rw [AH.push_row, if_pos (by rw [AH.push_next])], rfl, by dsimp only; omega, by dsimp only; omega, .inl (by dsimp only; omega), fun _ => Nat.le_refl _, fun j hj => by simp [pairsL_zero] at hj⟩
  · rintro m t H' ⟨a, u, lo, hi, hm, h14, h9, h8, h5, h2, hup, hr1, hlo, hlh, hhi, hfr⟩
    try simp (disch := first | omega | (simp only [ints_length, List.length_replicate]; done) | (simp only [ints_length, List.length_replicate]; omega)) only [Sall,evalOp,init,binE,binI,unE,convE,okNil,builtE,gv,TD.isAgg,resV,↓reduceIte,Nat.reduceEqDiff,reduceCtorEq,Nat.reduceAdd,Nat.reduceMul,Nat.reduceLeDiff,quietOp,blindOp,Int.reduceEq,Int.reduceLT,Int.reduceLE,Nat.reduceLT,ti2,ti3,ti4,ti41,ti42,ti62,ti22,ti45,ti37,ti47,ti39,ti74,ti138,ti101,ti103,ti108,ti24,ti28,ti96, h9, h8]
    refine condC_dec (fun h => ?_) (fun h => ?_)
    · by_cases hp : (a : Int) < r.getD a 0
      · have hle := pairsL_le r a
        have ne1 : ¬ H.next = H'.next := by omega
        try simp (disch := first | omega | (simp only [ints_length, List.length_replicate]; done) | (simp only [ints_length, List.length_replicate]; omega)) only [Sall,evalOp,init,binE,binI,unE,convE,okNil,builtE,gv,TD.isAgg,resV,↓reduceIte,Nat.reduceEqDiff,reduceCtorEq,Nat.reduceAdd,Nat.reduceMul,Nat.reduceLeDiff,quietOp,blindOp,Int.reduceEq,Int.reduceLT,Int.reduceLE,Nat.reduceLT,ti2,ti3,ti4,ti41,ti42,ti62,ti22,ti45,ti37,ti47,ti39,ti74,ti138,ti101,ti103,ti108,ti24,ti28,ti96, h9, h8, h5, h2, hr1, ints_get?, hp, decide_true, zeros_one, zeros_two, slCells, ne1]
        refine ⟨⟨by omega, by omega⟩, ⟨by omega, by omega⟩, ?_⟩
        obtain ⟨H2, e2⟩ : ∃ H2, H2 = (H'.push ⟨2, true, [.int .i64 a, .int .i64 (r.getD a 0)]⟩).push ⟨62, true, [.slice (some ⟨H'.next, 0, some 1⟩) 2 2]⟩ := ⟨_, rfl⟩
        have n2 : H2.next = H'.next + 2 := by rw [e2]; rfl
        have s2 : ∀ i, i < H'.next → H2.row i = H'.row i := fun i hi => by rw [e2, AH.push_row, if_neg (by rw [AH.push_next]; omega), AH.push_row, if_neg (by omega)]
        have x2 : H2.row H'.next = some ⟨2, true, ints [(a : Int), r.getD a 0]⟩ := by rw [e2, AH.push_row, if_neg (by rw [AH.push_next]; omega), AH.push_row, if_pos rfl]; rfl
        rw [← e2]
        clear e2
        refine appE_fr2 (hfr.same fun i _ hi => s2 i (by omega)) (m := 2) (l := [(a : Int), r.getD a 0]) ⟨rfl, .inr ⟨H'.next, by omega, by omega, rfl, x2⟩⟩ rfl (by decide) (by omega) hlh (by omega) ?_
        intro v' H3 n3 s3 f3
        try simp (disch := first | omega | (simp only [ints_length, List.length_replicate]; done) | (simp only [ints_length, List.length_replicate]; omega)) only [Sall,evalOp,init,binE,binI,unE,convE,okNil,builtE,gv,TD.isAgg,resV,↓reduceIte,Nat.reduceEqDiff,reduceCtorEq,Nat.reduceAdd,Nat.reduceMul,Nat.reduceLeDiff,quietOp,blindOp,Int.reduceEq,Int.reduceLT,Int.reduceLE,Nat.reduceLT,ti2,ti3,ti4,ti41,ti42,ti62,ti22,ti45,ti37,ti47,ti39,ti74,ti138,ti101,ti103,ti108,ti24,ti28,ti96, h9, h8, h2, w64]
        refine ⟨n - (a + 1), by omega, a + 1, v', lo, H2.next + 1, rfl, by omega, by omega, rfl, ⟨by have := hup.next; omega, fun i hi => ?_⟩, ?_, by omega, by omega, by omega, ?_⟩
        · rw [s3 i (by omega) (by omega), s2 i (by have := hup.next; omega), hup.row i hi]
        · rw [s3 _ (by omega) (by omega), s2 _ (by omega), hr1]
        · rw [pairsL_yes r a hp]; exact f3
      · try simp (disch := first | omega | (simp only [ints_length, List.length_replicate]; done) | (simp only [ints_length, List.length_replicate]; omega)) only [Sall,evalOp,init,binE,binI,unE,convE,okNil,builtE,gv,TD.isAgg,resV,↓reduceIte,Nat.reduceEqDiff,reduceCtorEq,Nat.reduceAdd,Nat.reduceMul,Nat.reduceLeDiff,quietOp,blindOp,Int.reduceEq,Int.reduceLT,Int.reduceLE,Nat.reduceLT,ti2,ti3,ti4,ti41,ti42,ti62,ti22,ti45,ti37,ti47,ti39,ti74,ti138,ti101,ti103,ti108,ti24,ti28,ti96, h9, h8, h5, h2, hr1, ints_get?, hp, decide_false, w64]
        refine ⟨⟨by omega, by omega⟩, n - (a + 1), by omega, a + 1, u, lo, hi, rfl, by omega, by omega, ?_⟩
        rw [pairsL_no r a hp]
        and_intros <;> first | omega | rfl | assumption
    · have ha : a = n := by omega
      subst ha
      try simp (disch := first | omega | (simp only [ints_length, List.length_replicate]; done) | (simp only [ints_length, List.length_replicate]; omega)) only [Sall,evalOp,init,binE,binI,unE,convE,okNil,builtE,gv,TD.isAgg,resV,↓reduceIte,Nat.reduceEqDiff,reduceCtorEq,Nat.reduceAdd,Nat.reduceMul,Nat.reduceLeDiff,quietOp,blindOp,Int.reduceEq,Int.reduceLT,Int.reduceLE,Nat.reduceLT,ti2,ti3,ti4,ti41,ti42,ti62,ti22,ti45,ti37,ti47,ti39,ti74,ti138,ti101,ti103,ti108,ti24,ti28,ti96, h5]
      exact ⟨hup, hfr.wide (by omega) hhi⟩
end Go.Proofs.Ytnpmidgikbbnbaa.A
end

section
set_option linter.unusedSimpArgs false
set_option linter.unusedVariables false
set_option maxRecDepth 100000
namespace Go.Proofs.Ytnpmidgikbbnbaa.A
open Go Go.Abs Go.RowKit

theorem indexFuncI_c (g : FuncId) (cap : List Value) (p : Int → Bool) (v : Value) (k : Nat) (l : List Int) (H : AH) (hv : Rd 1 H v k l) (hk : k ≤ 4294967296)
    (hp : ∀ x : Int, ACalls Try.prog g (.int .i64 x :: cap) H (is (.bool (p x)) H)) :
    ACalls Try.prog 146 [v, .func (.func g) #[] cap.toArray] H (is (.int .i64 (firstI (fun i => p (l.getD i 0)) k)) H) := by
  refine acalls_of_awp [.tmp 4] Try.func146 (by kernel_rfl) rfl rfl (Nat.le_of_ble_eq_true rfl) (by kernel_rfl) ?_
  try simp (disch := first | omega | (simp only [ints_length, List.length_replicate]; done) | (simp only [ints_length, List.length_replicate]; omega)) only [Sall,evalOp,init,binE,binI,unE,convE,okNil,builtE,gv,TD.isAgg,resV,↓reduceIte,Nat.reduceEqDiff,reduceCtorEq,Nat.reduceAdd,Nat.reduceMul,Nat.reduceLeDiff,quietOp,blindOp,Int.reduceEq,Int.reduceLT,Int.reduceLE,Nat.reduceLT,ti2,ti3,ti4,ti41,ti42,ti62,ti22,ti45,ti37,ti47,ti39,ti74,ti138,ti101,ti103,ti108,ti24,ti28,ti96, builtE, hv.len]
  refine awp_loop (fun m t H' => ∃ a : Nat, m = k - a ∧ a ≤ k ∧ t 8 = .int .i64 a ∧ t 7 = .int .i64 k ∧ t 0 = v ∧ t 1 = .func (.func g) #[] cap.toArray ∧ H' = H ∧ (∀ x, x < a → p (l.getD x 0) = false)) k ?_ ?_
  · refine ⟨0, by omega, by omega, ?_⟩
    try simp (disch := first | omega | (simp only [ints_length, List.length_replicate]; done) | (simp only [ints_length, List.length_replicate]; omega)) only [Sall,evalOp,init,binE,binI,unE,convE,okNil,builtE,gv,TD.isAgg,resV,↓reduceIte,Nat.reduceEqDiff,reduceCtorEq,Nat.reduceAdd,Nat.reduceMul,Nat.reduceLeDiff,quietOp,blindOp,Int.reduceEq,Int.reduceLT,Int.reduceLE,Nat.reduceLT,ti2,ti3,ti4,ti41,ti42,ti62,ti22,ti45,ti37,ti47,ti39,ti74,ti138,ti101,ti103,ti108,ti24,ti28,ti96, Int.natCast_zero, Nat.not_lt_zero, false_implies]
  · rintro m t H' ⟨a, hm, h14, h8, h7, h0, h1, rfl, hall⟩
    try simp (disch := first | omega | (simp only [ints_length, List.length_replicate]; done) | (simp only [ints_length, List.length_replicate]; omega)) only [Sall,evalOp,init,binE,binI,unE,convE,okNil,builtE,gv,TD.isAgg,resV,↓reduceIte,Nat.reduceEqDiff,reduceCtorEq,Nat.reduceAdd,Nat.reduceMul,Nat.reduceLeDiff,quietOp,blindOp,Int.reduceEq,Int.reduceLT,Int.reduceLE,Nat.reduceLT,ti2,ti3,ti4,ti41,ti42,ti62,ti22,ti45,ti37,ti47,ti39,ti74,ti138,ti101,ti103,ti108,ti24,ti28,ti96, h8, h7]
    refine condC_dec (fun h => ?_) (fun h => ?_)
    · obtain ⟨i, o, u, c, r, rfl, hr, hc, hs1, hg⟩ := hv.get (by omega)
      try simp (disch := first | omega | (simp only [ints_length, List.length_replicate]; done) | (simp only [ints_length, List.length_replicate]; omega)) only [Sall,evalOp,init,binE,binI,unE,convE,okNil,builtE,gv,TD.isAgg,resV,↓reduceIte,Nat.reduceEqDiff,reduceCtorEq,Nat.reduceAdd,Nat.reduceMul,Nat.reduceLeDiff,quietOp,blindOp,Int.reduceEq,Int.reduceLT,Int.reduceLE,Nat.reduceLT,ti2,ti3,ti4,ti41,ti42,ti62,ti22,ti45,ti37,ti47,ti39,ti74,ti138,ti101,ti103,ti108,ti24,ti28,ti96, h8, h7, h0, h1, hr, hs1]
      refine ⟨⟨by omega, by omega⟩, (hp _).to ?_⟩
      cases hb : p (l.getD a 0) with
      | true =>
        try simp (disch := first | omega | (simp only [ints_length, List.length_replicate]; done) | (simp only [ints_length, List.length_replicate]; omega)) only [Sall,evalOp,init,binE,binI,unE,convE,okNil,builtE,gv,TD.isAgg,resV,↓reduceIte,Nat.reduceEqDiff,reduceCtorEq,Nat.reduceAdd,Nat.reduceMul,Nat.reduceLeDiff,quietOp,blindOp,Int.reduceEq,Int.reduceLT,Int.reduceLE,Nat.reduceLT,ti2,ti3,ti4,ti41,ti42,ti62,ti22,ti45,ti37,ti47,ti39,ti74,ti138,ti101,ti103,ti108,ti24,ti28,ti96, h8, h7, h0, h1, is]
        rw [firstI_at (p := fun i => p (l.getD i 0)) (by omega) hb hall]
      | false =>
        try simp (disch := first | omega | (simp only [ints_length, List.length_replicate]; done) | (simp only [ints_length, List.length_replicate]; omega)) only [Sall,evalOp,init,binE,binI,unE,convE,okNil,builtE,gv,TD.isAgg,resV,↓reduceIte,Nat.reduceEqDiff,reduceCtorEq,Nat.reduceAdd,Nat.reduceMul,Nat.reduceLeDiff,quietOp,blindOp,Int.reduceEq,Int.reduceLT,Int.reduceLE,Nat.reduceLT,ti2,ti3,ti4,ti41,ti42,ti62,ti22,ti45,ti37,ti47,ti39,ti74,ti138,ti101,ti103,ti108,ti24,ti28,ti96, h8, h7, h0, h1, w64]
        refine ⟨k - (a + 1), by omega, a + 1, rfl, by omega, by omega, fun x hx => ?_⟩
        by_cases e : x = a
        · rw [e]; exact hb
        · exact hall x (by omega)
    · try simp (disch := first | omega | (simp only [ints_length, List.length_replicate]; done) | (simp only [ints_length, List.length_replicate]; omega)) only [Sall,evalOp,init,binE,binI,unE,convE,okNil,builtE,gv,TD.isAgg,resV,↓reduceIte,Nat.reduceEqDiff,reduceCtorEq,Nat.reduceAdd,Nat.reduceMul,Nat.reduceLeDiff,quietOp,blindOp,Int.reduceEq,Int.reduceLT,Int.reduceLE,Nat.reduceLT,ti2,ti3,ti4,ti41,ti42,ti62,ti22,ti45,ti37,ti47,ti39,ti74,ti138,ti101,ti103,ti108,ti24,ti28,ti96, is]
      rw [firstI_none (p := fun i => p (l.getD i 0)) fun x hx => hall x (by omega)]

theorem containsFuncI_c (g : FuncId) (cap : List Value) (p : Int → Bool) (v : Value) (k : Nat) (l : List Int) (H : AH) (hv : Rd 1 H v k l) (hk : k ≤ 4294967296)
    (hp : ∀ x : Int, ACalls Try.prog g (.int .i64 x :: cap) H (is (.bool (p x)) H)) :
    ACalls Try.prog 123 [v, .func (.func g) #[] cap.toArray] H (is (.bool ((List.range k).any fun i => p (l.getD i 0))) H) := by
  refine acalls_of_awp [.tmp 4] Try.func123 (by kernel_rfl) rfl rfl (Nat.le_of_ble_eq_true rfl) (by kernel_rfl) ?_
  try simp (disch := first | omega | (simp only [ints_length, List.length_replicate]; done) | (simp only [ints_length, List.length_replicate]; omega)) only [Sall,evalOp,init,binE,binI,unE,convE,okNil,builtE,gv,TD.isAgg,resV,↓reduceIte,Nat.reduceEqDiff,reduceCtorEq,Nat.reduceAdd,Nat.reduceMul,Nat.reduceLeDiff,quietOp,blindOp,Int.reduceEq,Int.reduceLT,Int.reduceLE,Nat.reduceLT,ti2,ti3,ti4,ti41,ti42,ti62,ti22,ti45,ti37,ti47,ti39,ti74,ti138,ti101,ti103,ti108,ti24,ti28,ti96, true_and]
  refine (indexFuncI_c g cap p v k l H hv hk hp).to ?_
  try simp (disch := first | omega | (simp only [ints_length, List.length_replicate]; done) | (simp only [ints_length, List.length_replicate]; omega)) only [Sall,evalOp,init,binE,binI,unE,convE,okNil,builtE,gv,TD.isAgg,resV,↓reduceIte,Nat.reduceEqDiff,reduceCtorEq,Nat.reduceAdd,Nat.reduceMul,Nat.reduceLeDiff,quietOp,blindOp,Int.reduceEq,Int.reduceLT,Int.reduceLE,Nat.reduceLT,ti2,ti3,ti4,ti41,ti42,ti62,ti22,ti45,ti37,ti47,ti39,ti74,ti138,ti101,ti103,ti108,ti24,ti28,ti96, is, firstI_any]

theorem areResults1_c (x : Int) (H : AH) : ACalls Try.prog 124 [.int .i64 x] H (is (.bool (!decide (0 ≤ x ∧ x ≤ 2))) H) := by
  refine acalls_of_awp [.tmp 2] Try.func124 (by kernel_rfl) rfl rfl (Nat.le_of_ble_eq_true rfl) (by kernel_rfl) ?_
  try simp (disch := first | omega | (simp only [ints_length, List.length_replicate]; done) | (simp only [ints_length, List.length_replicate]; omega)) only [Sall,evalOp,init,binE,binI,unE,convE,okNil,builtE,gv,TD.isAgg,resV,↓reduceIte,Nat.reduceEqDiff,reduceCtorEq,Nat.reduceAdd,Nat.reduceMul,Nat.reduceLeDiff,quietOp,blindOp,Int.reduceEq,Int.reduceLT,Int.reduceLE,Nat.reduceLT,ti2,ti3,ti4,ti41,ti42,ti62,ti22,ti45,ti37,ti47,ti39,ti74,ti138,ti101,ti103,ti108,ti24,ti28,ti96, true_and]
  refine (between_c _ _ _ _).to ?_
  try simp (disch := first | omega | (simp only [ints_length, List.length_replicate]; done) | (simp only [ints_length, List.length_replicate]; omega)) only [Sall,evalOp,init,binE,binI,unE,convE,okNil,builtE,gv,TD.isAgg,resV,↓reduceIte,Nat.reduceEqDiff,reduceCtorEq,Nat.reduceAdd,Nat.reduceMul,Nat.reduceLeDiff,quietOp,blindOp,Int.reduceEq,Int.reduceLT,Int.reduceLE,Nat.reduceLT,ti2,ti3,ti4,ti41,ti42,ti62,ti22,ti45,ti37,ti47,ti39,ti74,ti138,ti101,ti103,ti108,ti24,ti28,ti96, is]

theorem areResults_c (n : Nat) (v : Value) (k : Nat) (l : List Int) (x : Value) (ll : List (List Int)) (H : AH) (hn : n ≤ 14) (hv : Rd 14 H v k l) (hk : k ≤ 4294967296) (hx : Rd2 1 H x ll) (hl : ll.length ≤ 4294967296) (hl2 : ∀ y ∈ ll, y.length ≤ 4294967296) :
    ACalls Try.prog 94 [.agg #[.int .i64 n, v], x] H (is (.bool (resB n k l ll)) H) := by
  refine ACalls.wf (by kernel_rfl) fun hs => acalls_up rfl (acalls_of_awp [.tmp 4] Try.func94 (by kernel_rfl) rfl rfl (Nat.le_of_ble_eq_true rfl) (by kernel_rfl) ?_)
  have up : Up H.next H (H.push ⟨47, true, [.int .i64 n, v]⟩) := (Up.refl _ H).push (Nat.le_refl _) _
  have e1 : (H.push ⟨47, true, [.int .i64 n, v]⟩).row H.next = some ⟨47, true, [.int .i64 n, v]⟩ := by rw [AH.push_row, if_pos rfl]
  have n1 : (H.push ⟨47, true, [.int .i64 n, v]⟩).next = H.next + 1 := rfl
  by_cases hlk : ll.length ≤ k
  · have hlk' : ¬ (k : Int) < (ll.length : Int) := by omega
    try simp (disch := first | omega | (simp only [ints_length, List.length_replicate]; done) | (simp only [ints_length, List.length_replicate]; omega)) only [Sall,evalOp,init,binE,binI,unE,convE,okNil,builtE,gv,TD.isAgg,resV,↓reduceIte,Nat.reduceEqDiff,reduceCtorEq,Nat.reduceAdd,Nat.reduceMul,Nat.reduceLeDiff,quietOp,blindOp,Int.reduceEq,Int.reduceLT,Int.reduceLE,Nat.reduceLT,ti2,ti3,ti4,ti41,ti42,ti62,ti22,ti45,ti37,ti47,ti39,ti74,ti138,ti101,ti103,ti108,ti24,ti28,ti96, builtE, hx.len, hv.len, hlk', decide_false]
    refine awp_loop (fun m t H' => ∃ a : Nat, m = ll.length - a ∧ a ≤ ll.length ∧ t 15 = .int .i64 a ∧ t 14 = .int .i64 ll.length ∧ t 13 = x ∧ t 2 = .pointer (some ⟨H.next, 0, none⟩) ∧ Up H.next H H' ∧ H.next < H'.next ∧ H'.row H.next = some ⟨47, true, [.int .i64 n, v]⟩ ∧ (∀ i, i < a → resAt n (rnd l i) (ll.getD i []) = true)) ll.length ?_ ?_
    · refine ⟨0, by omega, by omega, ?_⟩
      try simp (disch := first | omega | (simp only [ints_length, List.length_replicate]; done) | (simp only [ints_length, List.length_replicate]; omega)) only [Sall,evalOp,init,binE,binI,unE,convE,okNil,builtE,gv,TD.isAgg,resV,↓reduceIte,Nat.reduceEqDiff,reduceCtorEq,Nat.reduceAdd,Nat.reduceMul,Nat.reduceLeDiff,quietOp,blindOp,Int.reduceEq,Int.reduceLT,Int.reduceLE,Nat.reduceLT,ti2,ti3,ti4,ti41,ti42,ti62,ti22,ti45,ti37,ti47,ti39,ti74,ti138,ti101,ti103,ti108,ti24,ti28,ti96, Int.natCast_zero, Nat.not_lt_zero, false_implies]
      exact ⟨up, by omega⟩
    · rintro m t H' ⟨a, hm, h14, h15, h14', h13, h2, hup, hnx, hr1, hall⟩
      try simp (disch := first | omega | (simp only [ints_length, List.length_replicate]; done) | (simp only [ints_length, List.length_replicate]; omega)) only [Sall,evalOp,init,binE,binI,unE,convE,okNil,builtE,gv,TD.isAgg,resV,↓reduceIte,Nat.reduceEqDiff,reduceCtorEq,Nat.reduceAdd,Nat.reduceMul,Nat.reduceLeDiff,quietOp,blindOp,Int.reduceEq,Int.reduceLT,Int.reduceLE,Nat.reduceLT,ti2,ti3,ti4,ti41,ti42,ti62,ti22,ti45,ti37,ti47,ti39,ti74,ti138,ti101,ti103,ti108,ti24,ti28,ti96, h15, h14']
      refine condC_dec (fun h => ?_) (fun h => ?_)
      · have hx' : Rd2 1 H' x ll := hx.same fun i r hr => by have := hs i r hr; rw [hup.row i this, hr]
        have hv' : Rd 14 H' v k l := hv.same fun i r hr => by have := hs i r hr; rw [hup.row i this, hr]
        obtain ⟨i, o, u, c, r, y, my, rfl, hr, hy, hsx, hok⟩ := hx'.get (j := a) (by omega)
        obtain ⟨i', o', u', c', r', rfl, hr', hc', hs', hg'⟩ := hv'.get (by omega)
        have hml := hl2 _ (getD_mem (ll := ll) (a := a) (by omega))
        have hmm := hsx.lenK1
        try simp (disch := first | omega | (simp only [ints_length, List.length_replicate]; done) | (simp only [ints_length, List.length_replicate]; omega)) only [Sall,evalOp,init,binE,binI,unE,convE,okNil,builtE,gv,TD.isAgg,resV,↓reduceIte,Nat.reduceEqDiff,reduceCtorEq,Nat.reduceAdd,Nat.reduceMul,Nat.reduceLeDiff,quietOp,blindOp,Int.reduceEq,Int.reduceLT,Int.reduceLE,Nat.reduceLT,ti2,ti3,ti4,ti41,ti42,ti62,ti22,ti45,ti37,ti47,ti39,ti74,ti138,ti101,ti103,ti108,ti24,ti28,ti96, h15, h14', h13, h2, hr, hy, hok]
        refine ⟨by omega, ?_⟩
        refine draw_id (by kernel_rfl) (by kernel_rfl) ?_
        try simp (disch := first | omega | (simp only [ints_length, List.length_replicate]; done) | (simp only [ints_length, List.length_replicate]; omega)) only [Sall,evalOp,init,binE,binI,unE,convE,okNil,builtE,gv,TD.isAgg,resV,↓reduceIte,Nat.reduceEqDiff,reduceCtorEq,Nat.reduceAdd,Nat.reduceMul,Nat.reduceLeDiff,quietOp,blindOp,Int.reduceEq,Int.reduceLT,Int.reduceLE,Nat.reduceLT,ti2,ti3,ti4,ti41,ti42,ti62,ti22,ti45,ti37,ti47,ti39,ti74,ti138,ti101,ti103,ti108,ti24,ti28,ti96, builtE, hsx.len, h15, h2, hr1, hr', hg']
        have hrl : (rnd l a).length = 14 := rnd_length l a k hv.1 (by omega)
        refine ⟨⟨by omega, by omega⟩, by omega, ACalls.wf (by kernel_rfl) fun hs1 => (pairs_c n (rnd l a) hrl hn H').mono ?_⟩
        rintro p H3 ⟨up3, hp⟩
        have hpl := hp.rd.len
        refine ⟨.inr (.inr (up3.le hs1)), ?_⟩
        have hsx3 : Rd 1 H3 y my (ll.getD a []) := hsx.same (up3.le hs1).row
        have hr3 : H3.row H.next = some ⟨47, true, [.int .i64 n, .slice (some ⟨i', o', u'⟩) k c']⟩ := by rw [up3.row _ hnx, hr1]
        have n3 := up3.next
        refine Holds.mp ?_
        by_cases hq : my = (pairsL (rnd l a) n).length
        · have e2 : ((my : Int) != ((pairsL (rnd l a) n).length : Int)) = false := by rw [hq]; exact bne_self_eq_false _
          try simp (disch := first | omega | (simp only [ints_length, List.length_replicate]; done) | (simp only [ints_length, List.length_replicate]; omega)) only [Sall,evalOp,init,binE,binI,unE,convE,okNil,builtE,gv,TD.isAgg,resV,↓reduceIte,Nat.reduceEqDiff,reduceCtorEq,Nat.reduceAdd,Nat.reduceMul,Nat.reduceLeDiff,quietOp,blindOp,Int.reduceEq,Int.reduceLT,Int.reduceLE,Nat.reduceLT,ti2,ti3,ti4,ti41,ti42,ti62,ti22,ti45,ti37,ti47,ti39,ti74,ti138,ti101,ti103,ti108,ti24,ti28,ti96, builtE, hpl, e2, h15, h2]
          refine (containsFuncI_c 124 [] (fun z => !decide (0 ≤ z ∧ z ≤ 2)) y my _ H3 hsx3 (by omega) (fun z => areResults1_c z H3)).to ?_
          cases hb : (List.range my).any fun j => !decide (0 ≤ (ll.getD a []).getD j 0 ∧ (ll.getD a []).getD j 0 ≤ 2) with
          | true =>
            try simp (disch := first | omega | (simp only [ints_length, List.length_replicate]; done) | (simp only [ints_length, List.length_replicate]; omega)) only [Sall,evalOp,init,binE,binI,unE,convE,okNil,builtE,gv,TD.isAgg,resV,↓reduceIte,Nat.reduceEqDiff,reduceCtorEq,Nat.reduceAdd,Nat.reduceMul,Nat.reduceLeDiff,quietOp,blindOp,Int.reduceEq,Int.reduceLT,Int.reduceLE,Nat.reduceLT,ti2,ti3,ti4,ti41,ti42,ti62,ti22,ti45,ti37,ti47,ti39,ti74,ti138,ti101,ti103,ti108,ti24,ti28,ti96, true_and]
            refine ⟨.inr (.inr (LE.refl _)), ?_⟩
            rw [resB_bad (i := a) (by omega) (by rw [resAt_any, ← hmm, hb]; simp)]
            exact ⟨rfl, by have := hup.next; omega, fun i hi => by rw [up3.row i (by omega), hup.row i hi]⟩
          | false =>
            try simp (disch := first | omega | (simp only [ints_length, List.length_replicate]; done) | (simp only [ints_length, List.length_replicate]; omega)) only [Sall,evalOp,init,binE,binI,unE,convE,okNil,builtE,gv,TD.isAgg,resV,↓reduceIte,Nat.reduceEqDiff,reduceCtorEq,Nat.reduceAdd,Nat.reduceMul,Nat.reduceLeDiff,quietOp,blindOp,Int.reduceEq,Int.reduceLT,Int.reduceLE,Nat.reduceLT,ti2,ti3,ti4,ti41,ti42,ti62,ti22,ti45,ti37,ti47,ti39,ti74,ti138,ti101,ti103,ti108,ti24,ti28,ti96, h15, h14', h13, h2, w64]
            refine ⟨.inr (.inr (LE.refl _)), ll.length - (a + 1), by omega, a + 1, rfl, by omega, by omega, ⟨by have := hup.next; omega, fun i hi => by rw [up3.row i (by omega), hup.row i hi]⟩, by omega, hr3, fun i hi => ?_⟩
            by_cases e : i = a
            · rw [e, resAt_any, ← hmm, hb, hq]; simp
            · exact hall i (by omega)
        · have e2 : ((my : Int) != ((pairsL (rnd l a) n).length : Int)) = true := by rw [bne_iff_ne]; omega
          have e3 : resAt n (rnd l a) (ll.getD a []) = false := by
            unfold resAt
            rw [← hmm, show (my == (pairsL (rnd l a) n).length) = false by simpa using hq, Bool.false_and]
          try simp (disch := first | omega | (simp only [ints_length, List.length_replicate]; done) | (simp only [ints_length, List.length_replicate]; omega)) only [Sall,evalOp,init,binE,binI,unE,convE,okNil,builtE,gv,TD.isAgg,resV,↓reduceIte,Nat.reduceEqDiff,reduceCtorEq,Nat.reduceAdd,Nat.reduceMul,Nat.reduceLeDiff,quietOp,blindOp,Int.reduceEq,Int.reduceLT,Int.reduceLE,Nat.reduceLT,ti2,ti3,ti4,ti41,ti42,ti62,ti22,ti45,ti37,ti47,ti39,ti74,ti138,ti101,ti103,ti108,ti24,ti28,ti96, builtE, hpl, e2, h15, h2]
          rw [resB_bad (i := a) (by omega) e3]
          exact ⟨rfl, by have := hup.next; omega, fun i hi => by rw [up3.row i (by omega), hup.row i hi]⟩
      · try simp (disch := first | omega | (simp only [ints_length, List.length_replicate]; done) | (simp only [ints_length, List.length_replicate]; omega)) only [Sall,evalOp,init,binE,binI,unE,convE,okNil,builtE,gv,TD.isAgg,resV,↓reduceIte,Nat.reduceEqDiff,reduceCtorEq,Nat.reduceAdd,Nat.reduceMul,Nat.reduceLeDiff,quietOp,blindOp,Int.reduceEq,Int.reduceLT,Int.reduceLE,Nat.reduceLT,ti2,ti3,ti4,ti41,ti42,ti62,ti22,ti45,ti37,ti47,ti39,ti74,ti138,ti101,ti103,ti108,ti24,ti28,ti96, true_and]
        rw [resB_good hlk fun i hi => hall i (by omega)]
        exact ⟨rfl, hup⟩
  · have hlk' : (k : Int) < (ll.length : Int) := by omega
    try simp (disch := first | omega | (simp only [ints_length, List.length_replicate]; done) | (simp only [ints_length, List.length_replicate]; omega)) only [Sall,evalOp,init,binE,binI,unE,convE,okNil,builtE,gv,TD.isAgg,resV,↓reduceIte,Nat.reduceEqDiff,reduceCtorEq,Nat.reduceAdd,Nat.reduceMul,Nat.reduceLeDiff,quietOp,blindOp,Int.reduceEq,Int.reduceLT,Int.reduceLE,Nat.reduceLT,ti2,ti3,ti4,ti41,ti42,ti62,ti22,ti45,ti37,ti47,ti39,ti74,ti138,ti101,ti103,ti108,ti24,ti28,ti96, builtE, hx.len, hv.len, hlk', decide_true]
    unfold resB
    simp only [hlk, decide_false, Bool.false_and, true_and]
    exact up
end Go.Proofs.Ytnpmidgikbbnbaa.A
end

section
set_option linter.unusedSimpArgs false
set_option linter.unusedVariables false
namespace Go.Proofs.Ytnpmidgikbbnbaa.A
open Go Go.RowKit Go.Shelf

attribute [local go_sem] Oper.semAt_some

/-- What has come when k rounds are over. -/
def upto (f : Nat → Int) (k : Nat) : List Int := (List.range k).map f
theorem upto_succ (f : Nat → Int) (k : Nat) : upto f (k + 1) = upto f k ++ [f k] := by simp [upto, List.range_succ]
theorem upto_length (f : Nat → Int) (k : Nat) : (upto f k).length = k := by simp [upto]
theorem upto_all (zs : List Int) : upto (fun j => zs[j]?.getD 0) zs.length = zs := by
  apply List.ext_getElem
  · simp [upto]
  · intro i h1 h2
    simp [upto, h2]
theorem upto_take (zs : List Int) {k : Nat} (hk : k ≤ zs.length) : upto (fun j => zs[j]?.getD 0) k = zs.take k := by
  apply List.ext_getElem
  · simp [upto, hk]
  · intro i h1 h2
    have : i < zs.length := by simp [upto] at h1; omega
    simp [upto, this]

set_option maxRecDepth 100000 in
set_option maxHeartbeats 2000000 in
theorem values1_in (F : Fence) (n : Nat) (h7 : F.fn 133) (hro : F.round = none) (hn : 1 ≤ n) (l Bs n₀ b off len cap : Nat) (zs : List Int) (hreach : len * 8 ≤ 140737488351232) (hb : b < n₀) (J Jx : List Int → World → Prop)
    (hY : ∀ pre x W, J pre W → pre.length < len → YieldAt F (n - 1) Try.prog l #[.int .i64 x] W fun e W' =>
      (e = .returned (.bool true) ∧ J (pre ++ [x]) W' ∧ Below n₀ W W') ∨ (e = .returned (.bool false) ∧ Jx (pre ++ [x]) W'))
    (W : World) (hBs : W.cell? ⟨Bs, 0, none⟩ = some (.slice (some ⟨b, off, none⟩) len cap)) (hc : ∀ j, j < len → W.cell? ⟨b, off + j, none⟩ = some (.int .i64 (zs[j]?.getD 0))) (h0 : J [] W) :
    CallsIn F n Try.prog 133 #[.func (.yield l) #[] #[], .pointer (some ⟨Bs, 0, none⟩)] W fun e W' => (∃ v, e = .returned v) ∧
      ((∃ ys, ys = upto (fun j => zs[j]?.getD 0) len ∧ J ys W') ∨ (∃ pre, (∃ k, k ≤ len ∧ pre = upto (fun j => zs[j]?.getD 0) k) ∧ Jx pre W')) := by
  refine callsIn_of_wp Try.func133 rfl h7 ?_ hro
  simp only [Try.ntmps133, List.size_toArray, List.length_cons, List.length_nil, Nat.reduceAdd, Nat.reduceSub, Array.replicate_succ, Array.replicate_zero, List.push_toArray, List.append_toArray, List.nil_append, List.cons_append]
  gi_wp2
  gi_loopw [7] (fun i wr => ∃ k : Nat, k ≤ len ∧ i = .int .i64 k ∧ J (upto (fun j => zs[j]?.getD 0) k) wr ∧ Below n₀ W wr)
    (fun i _ => len - (intOf i).toNat)
  case atStart => exact ⟨0, Nat.zero_le _, rfl, h0, Below.refl _ _⟩
  case round =>
    obtain ⟨k, hk, rfl, hJs, hnx⟩ := hrel
    have hcx : k < len → wr.cell? ⟨b, off + k, none⟩ = some (.int .i64 (zs[k]?.getD 0)) := fun h => (hnx.cell (p := ⟨b, off + k, none⟩) hb).trans (hc k h)
    by_cases hlt : k < len
    · obtain ⟨fn, tmps, assign, body, hy, hR⟩ := hY _ (zs[k]?.getD 0) wr hJs (by rw [upto_length]; exact hlt)
      have hcx' := hcx hlt
      gi_wp2
      refine hR.mono ?_
      rintro e W3 (⟨rfl, hJ3, hk3⟩ | ⟨rfl, hJx3⟩)
      · gi_wp2
        go_roundw
        case rel => exact ⟨k + 1, by omega, by simp, by rw [upto_succ]; exact hJ3, hnx.trans hk3⟩
        case measure => simp [intOf]; omega
      · gi_wp2
        refine bodyPost_ret (results_none rfl _ _ _) rfl ?_
        exact ⟨⟨_, rfl⟩, .inr ⟨_, ⟨k + 1, by omega, (upto_succ _ _).symm⟩, hJx3⟩⟩
    · obtain rfl : k = len := by omega
      gi_wp2
      go_end0
      exact ⟨⟨_, rfl⟩, .inl ⟨_, rfl, hJs⟩⟩

/-- A slice without elements gives nothing. -/
theorem values1_none_in (F : Fence) (n : Nat) (h7 : F.fn 133) (hro : F.round = none) (l Bs : Nat) (a : Option Addr) (cap : Nat) (J : List Int → World → Prop) (W : World) (hBs : W.cell? ⟨Bs, 0, none⟩ = some (.slice a 0 cap)) (h0 : J [] W) :
    CallsIn F n Try.prog 133 #[.func (.yield l) #[] #[], .pointer (some ⟨Bs, 0, none⟩)] W fun e W' => (∃ v, e = .returned v) ∧ J [] W' := by
  refine callsIn_of_wp Try.func133 rfl h7 ?_ hro
  simp only [Try.ntmps133, List.size_toArray, List.length_cons, List.length_nil, Nat.reduceAdd, Nat.reduceSub, Array.replicate_succ, Array.replicate_zero, List.push_toArray, List.append_toArray, List.nil_append, List.cons_append]
  gi_wp2
  gi_loopw [7] (fun i wr => i = .int .i64 0 ∧ J [] wr) (fun _ _ => 0)
  case atStart => exact ⟨rfl, h0⟩
  case round =>
    obtain ⟨rfl, hJs⟩ := hrel
    gi_wp2
    go_end0
    exact ⟨⟨_, rfl⟩, hJs⟩

/-- The slice value sv holds the numbers zs, in a block below n₀; or there are none. -/
def IntsAt (n₀ : Nat) (W : World) (sv : Value) (zs : List Int) : Prop :=
  (∃ a cap, sv = .slice a 0 cap ∧ zs = []) ∨ ∃ b off cap, sv = .slice (some ⟨b, off, none⟩) zs.length cap ∧ b < n₀ ∧ ∀ j, j < zs.length → W.cell? ⟨b, off + j, none⟩ = some (.int .i64 (zs[j]?.getD 0))
theorem IntsAt.below {n₀ : Nat} {A B : World} (h : Below n₀ A B) {sv : Value} {zs : List Int} : IntsAt n₀ A sv zs → IntsAt n₀ B sv zs
  | .inl e => .inl e
  | .inr ⟨b, off, cap, e, hb, hc⟩ => .inr ⟨b, off, cap, e, hb, fun j hj => (h.cell (p := ⟨b, off + j, none⟩) hb).trans (hc j hj)⟩

theorem values_stops (F : Fence) (n : Nat) (h7 : F.fn 133) (hro : F.round = none) (hn : 1 ≤ n) (Bs n₀ : Nat) (sv : Value) (zs : List Int) (hreach : zs.length * 8 ≤ 140737488351232) (w : World) (hBs : Bs < w.heap.size) (hn₀ : n₀ ≤ w.heap.size)
    (hc : w.cell? ⟨Bs, 0, none⟩ = some sv) (hI : IntsAt n₀ w sv zs) :
    SeqStopsK F n Try.prog 133 #[.pointer (some ⟨Bs, 0, none⟩)] (fun x : Int => #[Value.int .i64 x]) (Below n₀) (fun ys => ys = zs) (fun pre => pre <+: zs) zs.length w := fun l J Jx W hW _ _ hY h0 => by
  have hc' := (hW.cell (p := ⟨Bs, 0, none⟩) hBs).trans hc
  rcases hI.below (hW.mono hn₀) with ⟨a, cap, rfl, rfl⟩ | ⟨b, off, cap, rfl, hb, hcs⟩
  · exact (values1_none_in F n h7 hro l Bs a cap J W hc' h0).mono fun e W' ⟨he, hj⟩ => ⟨he, .inl ⟨_, rfl, hj⟩⟩
  · refine (values1_in F n h7 hro hn l Bs n₀ b off zs.length cap zs hreach hb J Jx hY W hc' hcs h0).mono ?_
    rintro e W' ⟨he, ⟨ys, rfl, hj⟩ | ⟨pre, ⟨k, hk, rfl⟩, hj⟩⟩
    · exact ⟨he, .inl ⟨_, upto_all zs, hj⟩⟩
    · exact ⟨he, .inr ⟨_, by rw [upto_take zs hk]; exact List.take_prefix _ _, hj⟩⟩

theorem info_el : (Try.prog.info? 2).map (fun i => (i.zero, i.size, i.bytes)) = some (some (.int .i64 0), 1, 8) := by kernel_rfl

set_option maxRecDepth 100000 in
set_option maxHeartbeats 2000000 in
/-- A new slice with what the iterator gives. -/
theorem appendSeq_in (F : Fence) (n : Nat) (h3 : F.fn 151) (h5 : F.fn 133) (hro : F.round = none) (hn : 3 ≤ n) (Bs : Nat) (sv : Value) (xs : List Int) (hlen : xs.length ≤ maxLen) (hbytes : xs.length * 8 ≤ 140737488351232) (w : World)
    (hBs : Bs < w.heap.size) (hc : w.cell? ⟨Bs, 0, none⟩ = some sv) (hI : IntsAt w.heap.size w sv xs) :
    CallsIn F n Try.prog 151 #[.slice none 0 0, .func (.func 133) #[] #[.pointer (some ⟨Bs, 0, none⟩)]] w fun e W' => ∃ v, e = .returned v ∧ W'.ownsRow w.heap.size 2 1 v xs.length (xs.map (Value.int .i64)) ∧ (v = .slice none 0 0 ↔ xs = []) ∧ Below w.heap.size w W' := by
  have h1 : 1 ≤ n := by omega
  obtain ⟨i0, hi, hz0, hz1, hz2⟩ := info_parts info_el
  refine callsIn_of_wp_marks Try.func151 rfl h3 ?_ hro
  simp only [Try.ntmps151, List.size_toArray, List.length_cons, List.length_nil, Nat.reduceAdd, Nat.reduceSub, Array.replicate_succ, Array.replicate_zero, List.push_toArray, List.append_toArray, List.nil_append, List.cons_append]
  gi_wp2
  have bO := Boxed.new w 62 (.slice none 0 0)
  have hB0 : Below w.heap.size w (w.alloc (.cells #[.slice none 0 0] 62)) := (Below.refl _ w).alloc (Nat.le_refl _) _
  have hc0 : (w.alloc (.cells #[.slice none 0 0] 62)).cell? ⟨Bs, 0, none⟩ = some sv := (hB0.cell (p := ⟨Bs, 0, none⟩) hBs).trans hc
  refine wpIn_rangeFunc_ownG hro h1 (gf := 133) (lb := #[.pointer (some ⟨Bs, 0, none⟩)]) rfl h5 (enters_of Try.func133 (by kernel_rfl) rfl)
    (values_stops F (n - 1) h5 hro (by omega) Bs w.heap.size sv xs hbytes _ (by simp; omega) (by simp) hc0 (hI.below hB0)) belowK_t (belowK_b (by simp)) (Below.refl _ _) (fun _ => rfl)
    (fun pre W => (∃ v, Boxed W w.heap.size 62 v ∧ W.ownsRow w.heap.size 2 1 v pre.length (pre.map (Value.int .i64)) ∧ (v = .slice none 0 0 ↔ pre = [])) ∧ Below w.heap.size w W)
    (fun _ _ _ => False)
    (OwnFrom.and (Own.from (holdsRow_own w.heap.size w.heap.size 62 2 1 (fun pre => pre.length) (fun pre => pre.map (Value.int .i64)) (fun pre v => v = .slice none 0 0 ↔ pre = [])) _) (ownFrom_below (Nat.le_refl _) (by simp)))
    (fun _ _ _ _ _ hs _ _ => hs)
    ⟨⟨_, bO, World.ownsRow_nil _ _ _ _, by simp⟩, hB0⟩
    (fun x => { tmps := #[.slice none 0 0, .func (.func 133) #[] #[.pointer (some ⟨Bs, 0, none⟩)], .pointer (some ⟨w.heap.size, 0, none⟩), undef, .slice none 0 0, .int .i64 x, .func (.func 133) #[] #[.pointer (some ⟨Bs, 0, none⟩)], .int .i64 x, undef, undef, undef, undef, undef], defers := [] }) ?assign ?body ?done ?stop
  case assign =>
    intro l x W K hK
    gi_wp2
    exact hK
  case body =>
    rintro l pre x W ⟨⟨v, hv, hrow, hnil⟩, hB⟩ hlt
    have hc := hv.cell
    gi_wp2_with (gi_at_builtin; refine wpListIn_append_own _ rfl _ _ 62 rfl w.heap.size 2 i0 (.int .i64 0) 1 8 Try.underlying62 hi hz0 hz1 hz2 rfl (by decide) _ _ _ rfl (hrow.alloc _) ⟨W.heap.size, 0, none⟩ 1 1 [.int .i64 x] rfl rfl (cell_one_new _ _ _) (by simp [Value.oneCell']) (by omega) (by omega) (by have := hB.size; simp; omega) ?_; intro v' w1 hown' hgrow _; obtain ⟨g', cap', rfl⟩ := ownsRow_succ hown'; obtain ⟨hv1, hv2, hr2, hk2, hb2⟩ := hv.appended (by decide) hrow hB.size (Nat.le_refl _) hown' hgrow; have hc1 := hv1.cell; have hf1 := hv1.frozen)
    exact ⟨hk2.from _, hb2, ⟨_, hv2, by simpa using hr2, by simp⟩, hB.trans hb2⟩
  case done =>
    rintro D ys W hD rfl ⟨⟨v, hv, hrow, hnil⟩, hB⟩ hK
    have hc := hv.cell
    gi_wp2
    refine ⟨by simp, .inl ⟨_, _, rfl, run_takeDeferred hK, ?_⟩⟩
    exact ⟨_, results_tmp rfl _ _ _, v, rfl, ownsRow_putObj hrow _ hK rfl, hnil, hB.trans (belowK_b (w := w) (Nat.le_refl _) W D _ _ (by simp at hD; omega) hK rfl rfl)⟩
  case stop =>
    rintro D c pre W _ _ h _
    exact h.elim
end Go.Proofs.Ytnpmidgikbbnbaa.A
end

section
set_option linter.unusedSimpArgs false
set_option linter.unusedVariables false
namespace Go.Abs

/-- All orders of the numbers that begin with a list that wants so many more. -/
def ordN (nums : List Int) : Nat → List Int → List (List Int)
  | 0, y => [y]
  | f + 1, y => nums.flatMap fun x => if y.contains x = true then [] else ordN nums f (y ++ [x])
/-- Those whose next number is one of the first c. -/
def ordP (nums : List Int) (f : Nat) (y : List Int) (c : Nat) : List (List Int) := (nums.take c).flatMap fun x => if y.contains x = true then [] else ordN nums f (y ++ [x])
theorem ordP_zero (nums : List Int) (f : Nat) (y : List Int) : ordP nums f y 0 = [] := rfl
theorem ordP_all (nums : List Int) (f : Nat) (y : List Int) : ordP nums f y nums.length = ordN nums (f + 1) y := by
  unfold ordP; rw [List.take_length]; rfl
theorem ordP_succ (nums : List Int) (f : Nat) (y : List Int) (c : Nat) (hc : c < nums.length) : ordP nums f y (c + 1) = ordP nums f y c ++ (if y.contains (nums.getD c 0) = true then [] else ordN nums f (y ++ [nums.getD c 0])) := by
  unfold ordP
  rw [List.take_add_one, List.getElem?_eq_getElem hc, List.flatMap_append, List.getD_eq_getElem?_getD, List.getElem?_eq_getElem hc]
  simp
/-- The first of them are a beginning of all of them. -/
theorem ordP_pre (nums : List Int) (f : Nat) (y : List Int) (c : Nat) (hc : c < nums.length) : ∃ L, ordN nums (f + 1) y = ordP nums f y (c + 1) ++ L := by
  refine ⟨(nums.drop (c + 1)).flatMap fun x => if y.contains x = true then [] else ordN nums f (y ++ [x]), ?_⟩
  have h : ordN nums (f + 1) y = nums.flatMap fun x => if y.contains x = true then [] else ordN nums f (y ++ [x]) := rfl
  rw [h]
  unfold ordP
  rw [← List.flatMap_append, List.take_append_drop]
theorem any_contains (y : List Int) (x : Int) : ((List.range y.length).any fun i => y.getD i 0 == x) = y.contains x := by
  rw [Bool.eq_iff_iff, List.any_eq_true, List.contains_iff_mem]
  constructor
  · rintro ⟨i, hi, h⟩
    have hi' : i < y.length := by simpa using hi
    rw [List.getD_eq_getElem?_getD, List.getElem?_eq_getElem hi'] at h
    have : y[i] = x := by simpa using h
    rw [← this]; exact List.getElem_mem _
  · intro h
    obtain ⟨i, hi, rfl⟩ := List.mem_iff_getElem.1 h
    exact ⟨i, by simpa using hi, by simp [hi]⟩
/-- Numbers from a on. -/
theorem seq_len_le (nums : List Int) (f : Nat) (y : List Int) : (ordN nums f y).length ≤ nums.length ^ f := by
  induction f generalizing y with
  | zero => simp [ordN]
  | succ f ih =>
    unfold ordN
    have : ∀ l : List Int, (l.flatMap fun x => if y.contains x = true then [] else ordN nums f (y ++ [x])).length ≤ l.length * nums.length ^ f := by
      intro l
      induction l with
      | nil => simp
      | cons x l ihl =>
        rw [List.flatMap_cons, List.length_append, List.length_cons, Nat.succ_mul]
        have h1 : (if y.contains x = true then [] else ordN nums f (y ++ [x])).length ≤ nums.length ^ f := by
          split
          · simp
          · exact ih _
        omega
    have h := this nums
    rw [Nat.pow_succ, Nat.mul_comm]; exact h
end Go.Abs
end

section
set_option linter.unusedSimpArgs false
set_option linter.unusedVariables false
namespace Go.Abs

def sortedL (zs : List Int) : List Int := zs.mergeSort fun x y => decide (x ≤ y)
theorem sortedL_length (zs : List Int) : (sortedL zs).length = zs.length := by simp [sortedL]
theorem sortedL_perm (zs : List Int) : (sortedL zs).Perm zs := List.mergeSort_perm _ _
theorem sortedL_sorted (zs : List Int) : (sortedL zs).Pairwise (fun x y => x ≤ y) := by
  have h := List.pairwise_mergeSort (le := fun x y : Int => decide (x ≤ y)) (fun a b c h1 h2 => by simp at *; omega) (fun a b => by simp; omega) zs
  exact h.imp (by simp)

theorem sorted_unique : ∀ {a b : List Int}, a.Perm b → a.Pairwise (fun x y => x ≤ y) → b.Pairwise (fun x y => x ≤ y) → a = b
  | [], b, h, _, _ => by rw [List.nil_perm] at h; exact h.symm
  | x :: a, [], h, _, _ => by rw [List.perm_nil] at h; exact h
  | x :: a, y :: b, h, ha, hb => by
    have hxy : x = y := by
      have h1 : x ∈ y :: b := h.subset (List.mem_cons_self)
      have h2 : y ∈ x :: a := h.symm.subset (List.mem_cons_self)
      have ha' : ∀ z ∈ a, x ≤ z := fun z hz => List.rel_of_pairwise_cons ha hz
      have hb' : ∀ z ∈ b, y ≤ z := fun z hz => List.rel_of_pairwise_cons hb hz
      rcases List.mem_cons.1 h1 with e | e
      · exact e
      · rcases List.mem_cons.1 h2 with e2 | e2
        · exact e2.symm
        · have := ha' _ e2; have := hb' _ e; omega
    subst hxy
    rw [sorted_unique ((List.perm_cons x).1 h) ha.of_cons hb.of_cons]

theorem seqL_pair (a : Int) (n : Nat) : (seqL a n).Pairwise (fun x y => x < y) := by
  unfold seqL
  rw [List.pairwise_map]
  exact List.pairwise_lt_range.imp (by intro x y h; omega)
theorem seqL_sorted (a : Int) (n : Nat) : (seqL a n).Pairwise (fun x y => x ≤ y) := (seqL_pair a n).imp (by intro x y h; omega)
theorem seqL_nodup (a : Int) (n : Nat) : (seqL a n).Nodup := (seqL_pair a n).imp (by intro x y h; omega)
theorem mem_seqL_iff (a : Int) (n : Nat) (x : Int) : x ∈ seqL a n ↔ a ≤ x ∧ x < a + n := by
  unfold seqL
  rw [List.mem_map]
  constructor
  · rintro ⟨i, hi, rfl⟩
    have : i < n := by simpa using hi
    constructor <;> omega
  · rintro ⟨h1, h2⟩
    exact ⟨(x - a).toNat, by simp; omega, by omega⟩

theorem sortedL_eq {y z : List Int} (h : y.Perm z) (hz : z.Pairwise (fun x y => x ≤ y)) : sortedL y = z :=
  sorted_unique ((sortedL_perm y).trans h) (sortedL_sorted y) hz
theorem sortedL_seq (a : Int) (n : Nat) (y : List Int) : sortedL y = seqL a n ↔ y.Perm (seqL a n) :=
  ⟨fun h => h ▸ (sortedL_perm y).symm, fun h => sortedL_eq h (seqL_sorted a n)⟩

/-- As many different ones among others: all of them. -/
theorem perm_of_nodup {α : Type} [DecidableEq α] : ∀ (y z : List α), y.Nodup → (∀ x ∈ y, x ∈ z) → z.length ≤ y.length → y.Perm z
  | [], z, _, _, h => by
    have : z = [] := List.eq_nil_of_length_eq_zero (by simpa using h)
    rw [this]
  | a :: y, z, hn, hs, h => by
    have ha : a ∈ z := hs a (List.mem_cons_self)
    have hn' := List.nodup_cons.1 hn
    have hp := List.perm_cons_erase ha
    have hl := List.length_erase_of_mem ha
    have hz : 0 < z.length := List.length_pos_of_mem ha
    have ih := perm_of_nodup y (z.erase a) hn'.2 (fun x hx => (List.mem_erase_of_ne (by rintro rfl; exact hn'.1 hx)).2 (hs x (List.mem_cons_of_mem _ hx))) (by rw [hl]; simp at h; omega)
    exact (ih.cons a).trans hp.symm

def ordB (n : Nat) (y : List Int) : Bool := decide (y.length = n) && decide (sortedL y = seqL 0 n)
theorem ordB_iff (n : Nat) (y : List Int) : ordB n y = true ↔ y.length = n ∧ (∀ x ∈ y, 0 ≤ x ∧ x < n) ∧ y.Nodup := by
  unfold ordB
  rw [Bool.and_eq_true, decide_eq_true_iff, decide_eq_true_iff, sortedL_seq]
  constructor
  · rintro ⟨h1, h2⟩
    refine ⟨h1, fun x hx => ?_, (h2.nodup_iff).2 (seqL_nodup 0 n)⟩
    have := (mem_seqL_iff 0 n x).1 (h2.subset hx)
    omega
  · rintro ⟨h1, h2, h3⟩
    exact ⟨h1, perm_of_nodup y _ h3 (fun x hx => (mem_seqL_iff 0 n x).2 (by have := h2 x hx; omega)) (by rw [seqL_length]; omega)⟩

theorem take_snoc {α : Type} (y : List α) (d : α) (i : Nat) (hi : i < y.length) : y.take (i + 1) = y.take i ++ [y.getD i d] := by
  rw [List.take_add_one, List.getElem?_eq_getElem hi, List.getD_eq_getElem?_getD, List.getElem?_eq_getElem hi]
  rfl
theorem nodup_snoc {α : Type} [DecidableEq α] {y : List α} {x : α} : (y ++ [x]).Nodup ↔ y.Nodup ∧ x ∉ y := by
  rw [List.nodup_append]
  constructor
  · rintro ⟨h1, _, h2⟩
    exact ⟨h1, fun h => h2 x h x (by simp) rfl⟩
  · rintro ⟨h1, h2⟩
    refine ⟨h1, by simp, fun a ha b hb e => ?_⟩
    rw [List.mem_singleton] at hb
    subst hb; subst e; exact h2 ha
theorem nodup_take {α : Type} {y : List α} (h : y.Nodup) (i : Nat) : (y.take i).Nodup := h.sublist (List.take_sublist _ _)

/-- What is known of the numbers that have been looked at. -/
def goodTo (n : Nat) (y : List Int) (i : Nat) : Prop := (∀ x ∈ y.take i, 0 ≤ x ∧ x < n) ∧ (y.take i).Nodup
theorem goodTo_zero (n : Nat) (y : List Int) : goodTo n y 0 := ⟨by simp, by simp⟩
theorem goodTo_succ {n : Nat} {y : List Int} {i : Nat} (hi : i < y.length) (h : goodTo n y i) (h1 : 0 ≤ y.getD i 0 ∧ y.getD i 0 < n) (h2 : (y.take i).contains (y.getD i 0) = false) : goodTo n y (i + 1) := by
  unfold goodTo
  rw [take_snoc y 0 i hi]
  refine ⟨fun x hx => ?_, nodup_snoc.2 ⟨h.2, fun hm => ?_⟩⟩
  · rcases List.mem_append.1 hx with hx | hx
    · exact h.1 x hx
    · rw [List.mem_singleton] at hx; rw [hx]; exact h1
  · rw [List.contains_iff_mem.2 hm] at h2; cases h2
theorem goodTo_all {n : Nat} {y : List Int} (h : goodTo n y y.length) : ordB n y = decide (y.length = n) := by
  unfold goodTo at h
  rw [List.take_length] at h
  by_cases e : y.length = n
  · rw [decide_eq_true e, ordB_iff]; exact ⟨e, h.1, h.2⟩
  · unfold ordB; rw [decide_eq_false e]; rfl
theorem ordB_bad {n : Nat} {y : List Int} {i : Nat} (hi : i < y.length) (h : ¬ (0 ≤ y.getD i 0 ∧ y.getD i 0 < n) ∨ (y.take i).contains (y.getD i 0) = true) : ordB n y = false := by
  rw [Bool.eq_false_iff]
  intro ho
  obtain ⟨_, h1, h2⟩ := (ordB_iff n y).1 ho
  rcases h with h | h
  · exact h (h1 _ (by rw [List.getD_eq_getElem?_getD, List.getElem?_eq_getElem hi]; exact List.getElem_mem _))
  · have h3 := nodup_take h2 (i + 1)
    rw [take_snoc y 0 i hi] at h3
    exact (nodup_snoc.1 h3).2 (List.contains_iff_mem.1 h)
theorem ordB_sorted_bad {n : Nat} {y : List Int} {i : Nat} (hi : i < y.length) (h : (sortedL y).getD i 0 ≠ (i : Int)) : ordB n y = false := by
  rw [Bool.eq_false_iff]
  intro ho
  unfold ordB at ho
  rw [Bool.and_eq_true, decide_eq_true_iff, decide_eq_true_iff] at ho
  rw [ho.2, seqL_getD 0 n i (by omega)] at h
  omega
theorem ordB_sorted_all {n : Nat} {y : List Int} (h : ∀ i, i < y.length → (sortedL y).getD i 0 = (i : Int)) : ordB n y = decide (y.length = n) := by
  by_cases e : y.length = n
  · unfold ordB
    rw [decide_eq_true e, Bool.true_and, decide_eq_true_iff]
    apply List.ext_getElem?
    intro i
    by_cases hi : i < y.length
    · have h1 := h i hi
      have h2 := seqL_getD 0 n i (by omega)
      rw [List.getElem?_eq_getElem (by rw [sortedL_length]; exact hi), List.getElem?_eq_getElem (by rw [seqL_length]; omega)]
      rw [List.getD_eq_getElem?_getD, List.getElem?_eq_getElem (by rw [sortedL_length]; exact hi)] at h1
      rw [List.getD_eq_getElem?_getD, List.getElem?_eq_getElem (by rw [seqL_length]; omega)] at h2
      simp only [Option.getD_some] at h1 h2
      rw [h1, h2]
      congr 1; omega
    · rw [List.getElem?_eq_none (by rw [sortedL_length]; omega), List.getElem?_eq_none (by rw [seqL_length]; omega)]
  · unfold ordB; rw [decide_eq_false e]; rfl

/-- Which numbers have been marked. -/
def metL (n : Nat) (y : List Int) : List Bool := (List.range n).map fun (j : Nat) => y.contains (j : Int)
theorem metL_length (n : Nat) (y : List Int) : (metL n y).length = n := by simp [metL]
theorem metL_nil (n : Nat) : metL n [] = List.replicate n false := by
  unfold metL
  exact List.eq_replicate_iff.2 ⟨by simp, by intro b hb; obtain ⟨a, _, rfl⟩ := List.mem_map.1 hb; rfl⟩
theorem metL_getD (n : Nat) (y : List Int) (x : Int) (h : 0 ≤ x ∧ x < n) : (metL n y).getD x.toNat false = y.contains x := by
  unfold metL
  rw [List.getD_eq_getElem?_getD, List.getElem?_map, List.getElem?_range (by omega)]
  simp only [Option.map_some, Option.getD_some]
  rw [show ((x.toNat : Nat) : Int) = x by omega]
theorem contains_snoc (y : List Int) (x z : Int) : (y ++ [x]).contains z = (y.contains z || z == x) := by
  rw [Bool.eq_iff_iff, Bool.or_eq_true, List.contains_iff_mem, List.contains_iff_mem, List.mem_append, List.mem_singleton, beq_iff_eq]
theorem metL_set (n : Nat) (y : List Int) (x : Int) (h : 0 ≤ x ∧ x < n) : (metL n y).set x.toNat true = metL n (y ++ [x]) := by
  apply List.ext_getElem?
  intro j
  rw [List.getElem?_set, metL_length]
  unfold metL
  rw [List.getElem?_map, List.getElem?_map]
  by_cases hj : j < n
  · rw [List.getElem?_range hj]
    simp only [Option.map_some]
    rw [contains_snoc]
    by_cases e : x.toNat = j
    · rw [if_pos e, if_pos (by omega)]
      have : ((j : Int) == x) = true := by rw [beq_iff_eq]; omega
      rw [this, Bool.or_true]
    · rw [if_neg e]
      have : ((j : Int) == x) = false := by rw [beq_eq_false_iff_ne]; omega
      rw [this, Bool.or_false]
  · have e : ¬ x.toNat = j := by omega
    rw [if_neg e, List.getElem?_eq_none (by simpa using hj)]
    rfl

/-! ### Steps -/
def stpI (n : Nat) (a b : Int) : Int := (b - a) % (n : Int)
def stpL (n : Nat) (y : List Int) : List Int := (List.range (y.length - 1)).map fun i => stpI n (y.getD i 0) (y.getD (i + 1) 0)
theorem stpL_length (n : Nat) (y : List Int) : (stpL n y).length = y.length - 1 := by simp [stpL]
theorem stpI_range {n : Nat} (hn : 0 < n) (a b : Int) : 0 ≤ stpI n a b ∧ stpI n a b < n :=
  ⟨Int.emod_nonneg _ (by omega), Int.emod_lt_of_pos _ (by omega)⟩
theorem stpI_impl {n : Nat} {a b : Int} (ha : 0 ≤ a ∧ a < n) (hb : 0 ≤ b ∧ b < n) : Int.tmod (b - a + n) n = stpI n a b := by
  unfold stpI
  rw [Int.tmod_eq_emod_of_nonneg (by omega), Int.add_emod_right]
theorem stpI_spec {n : Nat} (hn : 0 < n) (a b : Int) : Int.tmod (Int.tmod (b - a) n + n) n = stpI n a b := by
  have h1 : -(n : Int) < Int.tmod (b - a) n := by
    have := Int.lt_tmod_of_pos (b - a) (show (0 : Int) < n by omega)
    omega
  unfold stpI
  rw [Int.tmod_eq_emod_of_nonneg (by omega), Int.add_emod_right, Int.tmod_eq_emod]
  split
  · simp
  · rw [Int.natAbs_natCast, Int.sub_emod, Int.emod_emod_of_dvd _ (Int.dvd_refl _), Int.emod_self, Int.sub_zero, Int.emod_emod_of_dvd _ (Int.dvd_refl _)]
theorem stpI_ne {n : Nat} {a b : Int} (ha : 0 ≤ a ∧ a < n) (hb : 0 ≤ b ∧ b < n) (h : a ≠ b) : stpI n a b ≠ 0 := by
  unfold stpI
  intro e
  obtain ⟨k, hk⟩ := Int.dvd_of_emod_eq_zero e
  have h1 : -(n : Int) < n * k := by omega
  have h2 : (n : Int) * k < n := by omega
  have hn : (0 : Int) < n := by omega
  have hk0 : k = 0 := by
    rcases Int.lt_trichotomy k 0 with h3 | h3 | h3
    · have : (n : Int) * k ≤ n * (-1) := Int.mul_le_mul_of_nonneg_left (by omega) (by omega)
      omega
    · exact h3
    · have : (n : Int) * 1 ≤ n * k := Int.mul_le_mul_of_nonneg_left (by omega) (by omega)
      omega
  rw [hk0] at hk
  omega
def stpB (n : Nat) (y : List Int) : Bool := decide (stpL n y).Nodup
/-- Numbers that are different, and none is 0. -/
def diffB (s : List Int) : Bool := !s.contains 0 && decide s.Nodup
theorem diffB_steps {n : Nat} {y : List Int} (h1 : ∀ x ∈ y, 0 ≤ x ∧ x < n) (h2 : y.Nodup) : diffB (stpL n y) = stpB n y := by
  unfold diffB stpB
  have : (stpL n y).contains 0 = false := by
    rw [Bool.eq_false_iff]
    intro h
    rw [List.contains_iff_mem] at h
    unfold stpL at h
    obtain ⟨i, hi, e⟩ := List.mem_map.1 h
    have hi' : i < y.length - 1 := by simpa using hi
    have hm : ∀ j, j < y.length → y.getD j 0 ∈ y := fun j hj => by rw [List.getD_eq_getElem?_getD, List.getElem?_eq_getElem hj]; exact List.getElem_mem _
    refine stpI_ne (h1 _ (hm i (by omega))) (h1 _ (hm (i + 1) (by omega))) (fun e2 => ?_) e
    rw [List.getD_eq_getElem?_getD, List.getD_eq_getElem?_getD, List.getElem?_eq_getElem (by omega), List.getElem?_eq_getElem (by omega)] at e2
    simp only [Option.getD_some] at e2
    have := (List.getElem_inj h2).1 e2
    omega
  rw [this]; rfl
theorem stpL_take (n : Nat) (y : List Int) (i : Nat) (hi : i + 1 < y.length) : (stpL n y).take (i + 1) = (stpL n y).take i ++ [stpI n (y.getD i 0) (y.getD (i + 1) 0)] := by
  rw [take_snoc _ 0 i (by rw [stpL_length]; omega)]
  congr 2
  unfold stpL
  rw [List.getD_eq_getElem?_getD, List.getElem?_map, List.getElem?_range (by omega)]
  rfl
theorem stpB_bad {n : Nat} {y : List Int} {i : Nat} (hi : i + 1 < y.length) (h : ((stpL n y).take i).contains (stpI n (y.getD i 0) (y.getD (i + 1) 0)) = true) : stpB n y = false := by
  unfold stpB
  rw [decide_eq_false_iff_not]
  intro hn
  have h3 := nodup_take hn (i + 1)
  rw [stpL_take n y i hi] at h3
  exact (nodup_snoc.1 h3).2 (List.contains_iff_mem.1 h)
theorem stpL_snoc (n : Nat) (y : List Int) (x : Int) (hy : 0 < y.length) : stpL n (y ++ [x]) = stpL n y ++ [stpI n (y.getD (y.length - 1) 0) x] := by
  have hl : (y ++ [x]).length - 1 = (y.length - 1) + 1 := by rw [List.length_append, List.length_singleton]; omega
  unfold stpL
  rw [hl, List.range_succ, List.map_append]
  congr 1
  · apply List.map_congr_left
    intro i hi
    have hi' : i < y.length - 1 := by simpa using hi
    rw [List.getD_eq_getElem?_getD, List.getD_eq_getElem?_getD, List.getElem?_append_left (by omega), List.getElem?_append_left (by omega)]
    rw [List.getD_eq_getElem?_getD, List.getD_eq_getElem?_getD]
  · rw [List.map_singleton]
    congr 2
    · rw [List.getD_eq_getElem?_getD, List.getD_eq_getElem?_getD, List.getElem?_append_left (by omega)]
    · rw [List.getD_eq_getElem?_getD, List.getElem?_append_right (by omega), show y.length - 1 + 1 - y.length = 0 by omega]
      rfl
theorem stpB_snoc {n : Nat} {y : List Int} {x : Int} (hy : 0 < y.length) (h : stpB n y = false) : stpB n (y ++ [x]) = false := by
  unfold stpB at *
  rw [decide_eq_false_iff_not] at *
  rw [stpL_snoc n y x hy]
  exact fun hn => h (nodup_snoc.1 hn).1
theorem stpB_none {n : Nat} {nums : List Int} : ∀ (f : Nat) {y : List Int}, 0 < y.length → stpB n y = false → (ordN nums f y).filter (stpB n) = []
  | 0, y, _, h => by simp [ordN, h]
  | f + 1, y, hy, h => by
    have e : ordN nums (f + 1) y = nums.flatMap fun x => if y.contains x = true then [] else ordN nums f (y ++ [x]) := rfl
    rw [e, List.filter_flatMap]
    rw [List.flatMap_eq_nil_iff]
    intro x _
    split
    · rfl
    · exact stpB_none f (by simp) (stpB_snoc hy h)
/-- How many orders have different steps. -/
def cntS (n f : Nat) (y : List Int) : Nat := ((ordN (seqL 0 n) f y).filter (stpB n)).length
/-- Of those whose next number is one of the first c. -/
def cntP (n f : Nat) (y : List Int) (c : Nat) : Nat := ((ordP (seqL 0 n) f y c).filter (stpB n)).length
theorem cntP_zero (n f : Nat) (y : List Int) : cntP n f y 0 = 0 := rfl
theorem cntP_all (n f : Nat) (y : List Int) : cntP n f y n = cntS n (f + 1) y := by
  have := ordP_all (seqL 0 n) f y
  rw [seqL_length] at this
  unfold cntP cntS
  rw [this]
theorem cntP_succ (n f : Nat) (y : List Int) (c : Nat) (hc : c < n) (hy : 0 < y.length) : cntP n f y (c + 1) = cntP n f y c + (if y.contains (c : Int) = false ∧ stpB n (y ++ [(c : Int)]) = true then cntS n f (y ++ [(c : Int)]) else 0) := by
  unfold cntP
  rw [ordP_succ _ _ _ _ (by rw [seqL_length]; exact hc), List.filter_append, List.length_append, seqL_getD 0 n c hc, Int.zero_add]
  congr 1
  cases h1 : y.contains (c : Int) with
  | true => simp
  | false =>
    cases h2 : stpB n (y ++ [(c : Int)]) with
    | true => rw [if_neg (by simp), if_pos ⟨rfl, rfl⟩]; rfl
    | false => rw [if_neg (by simp), if_neg (by simp), stpB_none f (by simp) h2]; rfl
theorem cntS_zero (n : Nat) (y : List Int) (h : stpB n y = true) : cntS n 0 y = 1 := by simp [cntS, ordN, h]
end Go.Abs
end

section
set_option linter.unusedSimpArgs false
set_option linter.unusedVariables false
namespace Go.Proofs.Ytnpmidgikbbnbaa.A
open Go Go.RowKit Go.Shelf Go.Sort
open Go.Abs (sortedL)

attribute [local go_sem] Oper.semAt_some

/-- What is said of slices.Sort. -/
def SortsAt : Prop :=
  (∀ (blk off cap : Nat) (zs : List Int) (w : World), Holds (Value.int .i64) w blk off zs.toArray → blk < w.heap.size → zs.length < 4611686018427387904 →
    Calls Try.prog 132 #[.slice (some ⟨blk, off, none⟩) zs.length cap] w fun e w' => e = .returned (.tuple #[]) ∧ ∃ n os, w' = grow (putRow (Value.int .i64) (Sort.ahead w n) blk off (sortedL zs).toArray) os) ∧
  (∀ (p : Option Addr) (cap : Nat) (w : World), Calls Try.prog 132 #[.slice p 0 cap] w fun e w' => e = .returned (.tuple #[]) ∧ w' = w)

set_option maxRecDepth 100000 in
set_option maxHeartbeats 2000000 in
theorem collect_in (F : Fence) (n : Nat) (h2 : F.fn 131) (h3 : F.fn 151) (h5 : F.fn 133) (hro : F.round = none) (hn : 4 ≤ n) (Bs : Nat) (sv : Value) (xs : List Int) (hlen : xs.length ≤ maxLen) (hbytes : xs.length * 8 ≤ 140737488351232) (w : World)
    (hBs : Bs < w.heap.size) (hc : w.cell? ⟨Bs, 0, none⟩ = some sv) (hI : IntsAt w.heap.size w sv xs) :
    CallsIn F n Try.prog 131 #[.func (.func 133) #[] #[.pointer (some ⟨Bs, 0, none⟩)]] w fun e W' => ∃ v, e = .returned v ∧ W'.ownsRow w.heap.size 2 1 v xs.length (xs.map (Value.int .i64)) ∧ (v = .slice none 0 0 ↔ xs = []) ∧ Below w.heap.size w W' := by
  have h1 : 1 ≤ n := by omega
  have e3 : ∀ args w, (callFunc 151 args).run Try.prog w = .ok (.enter 151 args) w := enters_of Try.func151 (by kernel_rfl) rfl
  refine callsIn_of_wp Try.func131 rfl h2 ?_ hro
  simp only [Try.ntmps131, List.size_toArray, List.length_cons, List.length_nil, Nat.reduceAdd, Nat.reduceSub, Array.replicate_succ, Array.replicate_zero, List.push_toArray, List.append_toArray, List.nil_append, List.cons_append]
  gi_wp2_with (gi_at_call 151; refine (appendSeq_in F (n - 1) h3 h5 hro (by omega) Bs sv xs hlen hbytes _ hBs hc hI).mono ?_; rintro e w' ⟨v, rfl, hrow, hnil, hb⟩)
  go_ret
  exact ⟨v, rfl, hrow, hnil, hb⟩

set_option maxRecDepth 100000 in
set_option maxHeartbeats 2000000 in
theorem sorted_in (hsort : SortsAt) (Bs : Nat) (sv : Value) (xs : List Int) (hlen : xs.length ≤ maxLen) (hbytes : xs.length * 8 ≤ 140737488351232) (w : World)
    (hBs : Bs < w.heap.size) (hc : w.cell? ⟨Bs, 0, none⟩ = some sv) (hI : IntsAt w.heap.size w sv xs) :
    Calls Try.prog 106 #[.func (.func 133) #[] #[.pointer (some ⟨Bs, 0, none⟩)]] w fun e W' => ∃ v, e = .returned v ∧ W'.ownsRow w.heap.size 2 1 v xs.length ((sortedL xs).map (Value.int .i64)) ∧ (v = .slice none 0 0 ↔ xs = []) ∧ Below w.heap.size w W' := by
  refine (callsIn_wide (n := 8)).1 ?_
  have h1 : 1 ≤ 8 := by omega
  have e2 : ∀ args w, (callFunc 131 args).run Try.prog w = .ok (.enter 131 args) w := enters_of Try.func131 (by kernel_rfl) rfl
  have e9 : ∀ args w, (callFunc 132 args).run Try.prog w = .ok (.enter 132 args) w := enters_of Try.func132 (by kernel_rfl) rfl
  refine callsIn_of_wp Try.func106 rfl trivial ?_ rfl
  simp only [Try.ntmps106, List.size_toArray, List.length_cons, List.length_nil, Nat.reduceAdd, Nat.reduceSub, Array.replicate_succ, Array.replicate_zero, List.push_toArray, List.append_toArray, List.nil_append, List.cons_append]
  have hfK : Fence.wide.fn 131 := trivial
  have hfS : Fence.wide.fn 132 := trivial
  gi_wp2_with (gi_at_call 131; refine (collect_in Fence.wide _ trivial trivial trivial rfl (by omega) Bs sv xs hlen hbytes _ hBs hc hI).mono ?_; rintro e W ⟨v, rfl, hrow, hnil, hb⟩)
  rcases hrow.2 with ⟨rfl, hz⟩ | ⟨gb, cap, cur, rfl, hbase, hgb, r1, r2, r3, r4⟩
  · have hss : xs = [] := List.eq_nil_of_length_eq_zero hz
    subst hss
    have cN := callsIn_wide (n := 7).2 (hsort.2 none 0 W)
    gi_wp2_with (gi_at_call 132; refine cN.mono ?_; rintro e w' ⟨rfl, rfl⟩)
    go_ret
    exact ⟨.slice none 0 0, rfl, by simpa [sortedL] using hrow, by simp, hb⟩
  · have hH : Holds (Value.int .i64) W gb 0 xs.toArray := holds_of_blockI hgb (by simpa using r4)
    have hgl : gb < W.heap.size := (Array.getElem?_eq_some_iff.1 hgb).1
    have hsz : xs.length < 4611686018427387904 := by omega
    have cS := callsIn_wide (n := 7).2 (hsort.1 gb 0 cap xs W hH hgl hsz)
    gi_wp2_with (gi_at_call 132; refine cS.mono ?_; rintro e w' ⟨rfl, nn, os, rfl⟩)
    go_ret
    exact ⟨_, rfl, ownsRow_sortedI (by simp [sortedL]) hbase hgb r1 r2 r3, hnil, hb.grown (grownBy_sortedI _) hb.size (fun j hj => by cases hj; exact hbase)⟩
end Go.Proofs.Ytnpmidgikbbnbaa.A
end

section
set_option linter.unusedSimpArgs false
set_option linter.unusedVariables false
namespace Go.Abs
open Go Go.RowKit

section
variable {base : Nat} {ρ : Nat → Nat} {H : AH} {w w' : World}

theorem bsz_lt {b k : Nat} (h : bsz w b = some k) : b < w.heap.size := by
  rcases Nat.lt_or_ge b w.heap.size with h' | h'
  · exact h'
  · simp [bsz, Array.getElem?_eq_none h'] at h
theorem bsz_below (hB : Below w.heap.size w w') {b k : Nat} (h : bsz w b = some k) : bsz w' b = some k := by
  have hb := bsz_lt h
  unfold bsz at *
  rw [hB.block b hb]; exact h

theorem Rel.below (R : Rel base ρ H w) (hB : Below w.heap.size w w') : Rel base ρ H w' ∧ Ext base ρ H.next w ρ H.next w' := by
  have E : Ext base ρ H.next w ρ H.next w' := ⟨Nat.le_refl _, fun _ _ => rfl, hB.mono R.sz, fun b k h => bsz_below hB h⟩
  refine ⟨⟨R.scope, fun i r h hb => ⟨(R.ro i r h hb).1, fun j v hv ho => ?_⟩, fun i r h hb => ?_, R.inj, Nat.le_trans R.sz hB.size⟩, E⟩
  · obtain ⟨v', a, b⟩ := (R.ro i r h hb).2 j v hv ho
    exact ⟨v', (hB.cell (p := ⟨ρ i, j, none⟩) (World.block_lt_of_cell? w _ a)).trans a, b.ext E⟩
  · obtain ⟨a, cs, b, c⟩ := R.rwr i r h hb
    exact ⟨a, cs, (hB.block _ (R.lt_heap h hb)).trans b, c.ext E⟩

/-- A row that a callee has laid. -/
theorem Rel.newRow (R : Rel base ρ H w) (hB : Below w.heap.size w w') {g : Nat} (hg : w.heap.size ≤ g) {ty : TypeId} {cs : Array Value} (hcs : w'.heap[g]? = some (.cells cs ty (0, 0))) {xs : List Value} (hx : L1 ρ H.next w xs (cs.toList.take xs.length)) :
    Rel base (ren ρ H.next g) (H.push ⟨ty, true, xs⟩) w' ∧ Ext base ρ H.next w (ren ρ H.next g) (H.push ⟨ty, true, xs⟩).next w' := by
  have old : ∀ i, i < H.next → ren ρ H.next g i = ρ i := fun i hi => by unfold ren; rw [if_neg (by omega)]
  have new : ren ρ H.next g H.next = g := by unfold ren; rw [if_pos rfl]
  have E : Ext base ρ H.next w (ren ρ H.next g) (H.next + 1) w' := ⟨Nat.le_succ _, old, hB.mono R.sz, fun b k h => bsz_below hB h⟩
  obtain ⟨R', _⟩ := R.below hB
  have hsz := R.sz
  refine ⟨⟨?_, ?_, ?_, ?_, R'.sz⟩, E⟩
  · intro i r hr
    rw [AH.push_row] at hr
    rw [AH.push_next]
    split at hr
    · omega
    · have := R.scope i r hr; omega
  · intro i r hr hb
    rw [AH.push_row] at hr
    split at hr
    · simp at hr; subst hr; simp at hb
    · have hi := R.scope i r hr
      rw [old i hi]
      obtain ⟨h1, h2⟩ := R.ro i r hr hb
      refine ⟨h1, fun j v hv ho => ?_⟩
      obtain ⟨v', a, b⟩ := h2 j v hv ho
      exact ⟨v', (hB.cell (p := ⟨ρ i, j, none⟩) (World.block_lt_of_cell? w _ a)).trans a, b.ext E⟩
  · intro i r hr hb
    rw [AH.push_row] at hr
    split at hr
    · rename_i e; subst e
      simp at hr; subst hr
      rw [new]
      exact ⟨by omega, cs, hcs, hx.ext E⟩
    · have hi := R.scope i r hr
      obtain ⟨a, cs', b, c⟩ := R.rwr i r hr hb
      rw [old i hi]
      exact ⟨a, cs', (hB.block _ (R.lt_heap hr hb)).trans b, c.ext E⟩
  · intro i j r s hr hs hb hc he
    rw [AH.push_row] at hr hs
    split at hr <;> split at hs
    · rename_i e1 e2; rw [e1, e2]
    · rename_i e1 e2
      have hj := R.scope j s hs
      rw [e1, new, old j hj] at he
      have := R.lt_heap hs hc
      omega
    · rename_i e1 e2
      have hi := R.scope i r hr
      rw [e2, new, old i hi] at he
      have := R.lt_heap hr hb
      omega
    · have hi := R.scope i r hr
      have hj := R.scope j s hs
      rw [old i hi, old j hj] at he
      exact R.inj i j r s hr hs hb hc he

/-- A row of ours that a callee has written. -/
theorem Rel.turned (R : Rel base ρ H w) {i : Nat} {r : Row} (hr : H.row i = some r) (hw : r.rw = true) (hg : w.grownBy w' (some (ρ i))) {cs cs' : Array Value} (h0 : w.heap[ρ i]? = some (.cells cs r.ty (0, 0))) (h1 : w'.heap[ρ i]? = some (.cells cs' r.ty (0, 0))) (hs : cs'.size = cs.size)
    {xs : List Value} (hx : L1 ρ H.next w xs (cs'.toList.take xs.length)) :
    Rel base ρ (H.setCells i xs) w' ∧ Ext base ρ H.next w ρ (H.setCells i xs).next w' := by
  have hbi := (R.rwr i r hr hw).1
  have hB : Below base w w' := ⟨hg.os, hg.tape, hg.output, hg.size, fun k hk => hg.block k (by have := R.sz; omega) (fun e => by have := Option.some.inj e; omega)⟩
  have hst : ∀ b k, bsz w b = some k → bsz w' b = some k := by
    intro b k h
    by_cases e : b = ρ i
    · subst e
      simp only [bsz, h0] at h
      simp only [bsz, h1]
      rw [hs]; exact h
    · have hb := bsz_lt h
      unfold bsz at *
      rw [hg.block b hb (fun e2 => e (Option.some.inj e2))]; exact h
  have E : Ext base ρ H.next w ρ H.next w' := ⟨Nat.le_refl _, fun _ _ => rfl, hB, hst⟩
  refine ⟨⟨?_, ?_, ?_, ?_, Nat.le_trans R.sz hg.size⟩, E⟩
  · intro j s hj
    rw [AH.setCells_row] at hj
    rw [AH.setCells_next]
    split at hj
    · rename_i e; rw [e]; exact R.scope i r hr
    · exact R.scope j s hj
  · intro j s hj hb
    rw [AH.setCells_row] at hj
    split at hj
    · rw [hr] at hj; simp at hj; subst hj; rw [hw] at hb; cases hb
    · obtain ⟨a1, a2⟩ := R.ro j s hj hb
      refine ⟨a1, fun k v hv ho => ?_⟩
      obtain ⟨v', a, b⟩ := a2 k v hv ho
      exact ⟨v', (hB.cell (p := ⟨ρ j, k, none⟩) a1).trans a, b.ext E⟩
  · intro j s hj hb
    rw [AH.setCells_row] at hj
    split at hj
    · rename_i e; subst e
      rw [hr] at hj; simp at hj; subst hj
      exact ⟨hbi, cs', h1, hx.ext E⟩
    · rename_i e
      obtain ⟨a, c0, b, c⟩ := R.rwr j s hj hb
      exact ⟨a, c0, (hg.block _ (R.lt_heap hj hb) (fun e2 => e (R.inj j i s r hj hr hb hw (Option.some.inj e2)))).trans b, c.ext E⟩
  · intro j k s q hj hk hb hc he
    rw [AH.setCells_row] at hj hk
    split at hj <;> split at hk
    · rename_i e1 e2; rw [e1, e2]
    · rename_i e1 e2; subst e1
      exact R.inj _ k r q hr hk hw hc he
    · rename_i e1 e2; subst e2
      exact R.inj j _ s r hj hr hb hw he
    · exact R.inj j k s q hj hk hb hc he

/-- The integers that a slice reads, in the world. -/
theorem Rd.cellsAt (R : Rel base ρ H w) {v v' : Value} {n : Nat} {l : List Int} (h : Rd 1 H v n l) (hv : VR ρ H.next w v v') :
    (∃ a c, v' = .slice a 0 c ∧ l = []) ∨ ∃ b o c, v' = .slice (some ⟨b, o, none⟩) l.length c ∧ b < w.heap.size ∧ ∀ j, j < l.length → w.cell? ⟨b, o + j, none⟩ = some (.int .i64 (l[j]?.getD 0)) := by
  obtain ⟨hl, hc⟩ := h
  rw [Nat.mul_one] at hl
  by_cases h0 : n = 0
  · left
    have hl0 : l = [] := List.eq_nil_of_length_eq_zero (by omega)
    subst h0
    have key : ∃ a c, v = .slice a 0 c := by
      rcases hc with ⟨_, a, c, rfl, _⟩ | ⟨i, o, u, c, r, rfl, _⟩
      · exact ⟨_, _, rfl⟩
      · exact ⟨_, _, rfl⟩
    obtain ⟨a, c, rfl⟩ := key
    cases hv with
    | one h =>
      cases h with
      | scal v hs => exact ⟨_, _, rfl, hl0⟩
      | sle i o n c hi => exact ⟨_, _, rfl, hl0⟩
      | slu i o n c e a c' hi hn hr => exact ⟨_, _, rfl, hl0⟩
  · right
    rcases hc with ⟨h1, _⟩ | ⟨i, o, u, c, r, rfl, hr, hlen, hseg⟩
    · exact absurd h1 h0
    · rw [Nat.mul_one] at hlen hseg
      have hok : r.ok ((r.cells.drop o).take n) := .inr fun x hx => by
        have hs : (r.cells.drop o).take n = ints l := hseg
        rw [hs] at hx
        obtain ⟨y, _, rfl⟩ := List.mem_map.1 hx
        rfl
      obtain ⟨ys, hys, hcell, hL⟩ := R.cells hr hlen hok
      have hs : (r.cells.drop o).take n = ints l := hseg
      rw [hs] at hL
      have hcells : ∀ j, j < l.length → w.cell? ⟨ρ i, o + j, none⟩ = some (.int .i64 (l[j]?.getD 0)) := by
        intro j hj
        have hx : (ints l)[j]? = some (.int .i64 (l.getD j 0)) := ints_get? l j hj
        obtain ⟨y, hy, hv1⟩ := hL.get hx
        have e := VR.int (.one hv1)
        rw [hcell j y hy, e, List.getD_eq_getElem?_getD]
      have hlt : ρ i < w.heap.size := World.block_lt_of_cell? w _ (hcells 0 (by omega))
      rw [hl]
      cases hv with
      | one h =>
        cases h with
        | scal v hs => simp [Abs.scal] at hs
        | sle i o n c hi => exact ⟨ρ i, o, c, rfl, hlt, fun j hj => hcells j (by omega)⟩
        | slu i o n c e a c' hi hn hr =>
          rcases hr with ⟨rfl, _⟩ | ⟨h1, _⟩
          · exact ⟨ρ i, o, c', rfl, hlt, fun j hj => hcells j (by omega)⟩
          · exact absurd h1 h0

/-- A new slice of integers that a callee has laid. -/
theorem Rel.newInts (R : Rel base ρ H w) (hB : Below w.heap.size w w') {ty : TypeId} {v' : Value} {l : List Int} (h : w'.ownsRow w.heap.size ty 1 v' l.length (l.map (Value.int .i64))) :
    ∃ v H' ρ', Up H.next H H' ∧ Fr 1 ty H.next H'.next H' v l.length l ∧ Rel base ρ' H' w' ∧ VR ρ' H'.next w' v v' ∧ Ext base ρ H.next w ρ' H'.next w' := by
  rcases h.2 with ⟨rfl, h0⟩ | ⟨g, cap, cur, rfl, hg, hcs, h1, h2, h3, h4⟩
  · obtain ⟨R', E⟩ := R.below hB
    exact ⟨_, H, ρ, Up.refl _ _, ⟨by omega, .inl ⟨h0, rfl⟩⟩, R', .scal rfl, E⟩
  · rw [Nat.mul_one] at h4 h3
    have hx : L1 ρ H.next w (ints l) (cur.toList.take (ints l).length) := by
      rw [ints_length, h4]
      exact L1.self fun v hv => by obtain ⟨y, _, rfl⟩ := List.mem_map.1 hv; rfl
    obtain ⟨R', E⟩ := R.newRow hB hg hcs hx
    have new : ren ρ H.next g H.next = g := by unfold ren; rw [if_pos rfl]
    have ht : VR (ren ρ H.next g) (H.push ⟨ty, true, ints l⟩).next w' (.slice (some ⟨H.next, 0, some 1⟩) l.length l.length) (.slice (some ⟨g, 0, none⟩) l.length cap) := by
      refine .one (.slu _ _ _ _ _ _ _ (Nat.lt_succ_self _) h1 (.inl ⟨by rw [new], ?_⟩))
      rw [new]
      simp [bsz, hcs, h3]
    exact ⟨_, _, _, (Up.refl _ H).push (Nat.le_refl _) _, ⟨by omega, .inr ⟨H.next, Nat.le_refl _, Nat.lt_succ_self _, rfl, by rw [AH.push_row, if_pos rfl]⟩⟩, R', ht, E⟩
end
end Go.Abs
end

section
set_option linter.unusedSimpArgs false
set_option linter.unusedVariables false
set_option maxRecDepth 100000
set_option maxHeartbeats 2000000
namespace Go.Proofs.Ytnpmidgikbbnbaa.A
open Go Go.Abs Go.RowKit Go.Shelf Go.Sort

def sortRen : Go.Shelf.Ren := ⟨fun | 5 => 132 | 8 => 135 | 7 => 152 | 19 => 161 | 20 => 162 | 10 => 165 | 11 => 166 | 12 => 167 | 13 => 168 | 14 => 169 | 15 => 170 | 16 => 171 | 17 => 172 | 18 => 173 | 30 => 180 | 31 => 175 | 32 => 176 | 33 => 181 | 34 => 182 | 35 => 130 | 40 => 184 | n => n, fun | 23 => 62 | 25 => 2 | 3 => 3 | 32 => 144 | 22 => 62 | 0 => 0 | 44 => 162 | 46 => 164 | 4 => 4 | 36 => 155 | 35 => 154 | 41 => 159 | 5 => 5 | 9 => 9 | 53 => 172 | 57 => 176 | 63 => 180 | 64 => 181 | n => n, fun | n => n⟩
theorem sortLy : Go.Proofs.SlLaysM.n5 Try.prog sortRen := {
  mixed := by kernel_rfl
  f5 := ⟨Try.f132.name, by decide, Try.func132.trans (congrArg some (by kernel_rfl))⟩
  f7 := ⟨Try.f152.name, by decide, Try.func152.trans (congrArg some (by kernel_rfl))⟩
  f8 := Try.func135.trans (congrArg some (by kernel_rfl))
  f10 := ⟨Try.f165.name, by decide, Try.func165.trans (congrArg some (by kernel_rfl))⟩
  f11 := ⟨Try.f166.name, by decide, Try.func166.trans (congrArg some (by kernel_rfl))⟩
  f12 := ⟨Try.f167.name, by decide, Try.func167.trans (congrArg some (by kernel_rfl))⟩
  f13 := ⟨Try.f168.name, by decide, Try.func168.trans (congrArg some (by kernel_rfl))⟩
  f14 := ⟨Try.f169.name, by decide, Try.func169.trans (congrArg some (by kernel_rfl))⟩
  f15 := ⟨Try.f170.name, by decide, Try.func170.trans (congrArg some (by kernel_rfl))⟩
  f16 := ⟨Try.f171.name, by decide, Try.func171.trans (congrArg some (by kernel_rfl))⟩
  f17 := ⟨Try.f172.name, by decide, Try.func172.trans (congrArg some (by kernel_rfl))⟩
  f18 := ⟨Try.f173.name, by decide, Try.func173.trans (congrArg some (by kernel_rfl))⟩
  f19 := Try.func161.trans (congrArg some (by kernel_rfl))
  f20 := Try.func162.trans (congrArg some (by kernel_rfl))
  f30 := ⟨Try.f180.name, by decide, Try.func180.trans (congrArg some (by kernel_rfl))⟩
  f31 := Try.func175.trans (congrArg some (by kernel_rfl))
  f32 := Try.func176.trans (congrArg some (by kernel_rfl))
  f33 := ⟨Try.f181.name, by decide, Try.func181.trans (congrArg some (by kernel_rfl))⟩
  f34 := ⟨Try.f182.name, by decide, Try.func182.trans (congrArg some (by kernel_rfl))⟩
  f35 := ⟨Try.f130.name, by decide, Try.func130.trans (congrArg some (by kernel_rfl))⟩
  f40 := ⟨Try.f184.name, by decide, Try.func184.trans (congrArg some (by kernel_rfl))⟩
  t0 := Try.underlying0
  a0 := Try.isAgg0
  z0 := Try.sizeOf0
  v0 := Try.zeroValue0
  t3 := Try.underlying3
  a3 := Try.isAgg3
  z3 := Try.sizeOf3
  v3 := Try.zeroValue3
  t4 := Try.underlying4
  a4 := Try.isAgg4
  z4 := Try.sizeOf4
  v4 := Try.zeroValue4
  t5 := Try.underlying5
  a5 := Try.isAgg5
  z5 := Try.sizeOf5
  v5 := Try.zeroValue5
  t9 := Try.underlying9
  a9 := Try.isAgg9
  z9 := Try.sizeOf9
  v9 := Try.zeroValue9
  t22 := Try.underlying62
  a22 := Try.isAgg62
  z22 := Try.sizeOf62
  v22 := Try.zeroValue62
  t23 := Try.underlying62
  a23 := Try.isAgg62
  z23 := Try.sizeOf62
  v23 := Try.zeroValue62
  t25 := Try.underlying2
  a25 := Try.isAgg2
  z25 := Try.sizeOf2
  v25 := Try.zeroValue2
  t32 := Try.underlying144
  a32 := Try.isAgg144
  z32 := Try.sizeOf144
  v32 := Try.zeroValue144
  t35 := Try.underlying154
  a35 := Try.isAgg154
  z35 := Try.sizeOf154
  v35 := Try.zeroValue154
  t36 := Try.underlying155
  a36 := Try.isAgg155
  z36 := Try.sizeOf155
  v36 := Try.zeroValue155
  t41 := Try.underlying159
  a41 := Try.isAgg159
  z41 := Try.sizeOf159
  v41 := Try.zeroValue159
  t44 := Try.underlying162
  a44 := Try.isAgg162
  z44 := Try.sizeOf162
  v44 := Try.zeroValue162
  t46 := Try.underlying164
  a46 := Try.isAgg164
  z46 := Try.sizeOf164
  v46 := Try.zeroValue164
  t53 := Try.underlying172
  a53 := Try.isAgg172
  z53 := Try.sizeOf172
  v53 := Try.zeroValue172
  t57 := Try.underlying176
  a57 := Try.isAgg176
  z57 := Try.sizeOf176
  v57 := Try.zeroValue176
  t63 := Try.underlying180
  a63 := Try.isAgg180
  z63 := Try.sizeOf180
  v63 := Try.zeroValue180
  t64 := Try.underlying181
  a64 := Try.isAgg181
  z64 := Try.sizeOf181
  v64 := Try.zeroValue181 }

theorem sortsAt : SortsAt := ⟨fun blk off cap zs w hH hb hs => AnyM.slices_Sort_int sortLy blk off cap zs w hH hb hs, fun p cap w => AnyM.slices_Sort_int_none sortLy p cap w⟩

theorem sorted_c (b : Nat) (v : Value) (y : List Int) (H : AH) (hb : H.row b = some ⟨62, true, [v]⟩) (hv : Rd 1 H v y.length y) (hy : y.length ≤ 4294967296) :
    ACalls Try.prog 106 [.func (.func 133) #[] #[.pointer (some ⟨b, 0, none⟩)]] H (fun u H' => Up H.next H H' ∧ Fr 1 2 H.next H'.next H' u y.length (sortedL y)) := by
  refine ⟨by kernel_rfl, fun base ρ w args' R hL => ?_⟩
  obtain ⟨hl, hx⟩ := hL
  match args', hl, hx with
  | [a], _, hx =>
    obtain ⟨_, ys, e1, e2, e3⟩ := VR.func (hx 0 _ _ rfl rfl)
    have hp : ys = #[.pointer (some ⟨ρ b, 0, none⟩)] := by
      rcases ys with ⟨zs⟩
      match zs, e2, e3 with
      | [z], _, e3 =>
        have := VR.ptr (.one (e3 0 _ _ rfl rfl))
        have h : z = .pointer (some ⟨ρ b, 0, none⟩) := this.2.2
        subst h; rfl
    rw [e1, hp]
    obtain ⟨sv, hc, hsv⟩ := R.cell (i := b) (j := 0) hb rfl (.inl rfl)
    have hI : IntsAt w.heap.size w sv y := by
      rcases Rd.cellsAt R hv (.one hsv) with ⟨a, c, h1, h2⟩ | ⟨b', o, c, h1, h2, h3⟩
      · exact .inl ⟨a, c, h1, h2⟩
      · exact .inr ⟨b', o, c, h1, h2, h3⟩
    have hsl : (sortedL y).length = y.length := by simp [sortedL]
    refine (sorted_in sortsAt (ρ b) sv y (Nat.le_trans hy (by decide)) (by omega) w (World.block_lt_of_cell? w _ hc) hc hI).mono ?_
    rintro e w' ⟨v', rfl, hrow, _, hB⟩
    rw [← hsl] at hrow ⊢
    obtain ⟨u, H', ρ', h1, h2, h3, h4, h5⟩ := R.newInts hB hrow
    exact ⟨v', u, H', ρ', rfl, ⟨h1, h2⟩, h3, h4, h5⟩
end Go.Proofs.Ytnpmidgikbbnbaa.A
end

section
set_option linter.unusedSimpArgs false
set_option linter.unusedVariables false
namespace Go.Abs

/-- One row of the square, its first c numbers written. -/
def sqE (n i : Nat) (y : List Int) (j : Nat) : Int := Int.tmod ((i : Int) + y.getD j 0) n
def sqR (n : Nat) (y : List Int) (i c : Nat) : List Int := (List.range n).map fun j => if j < c then sqE n i y j else 0
/-- The first i rows, and of the next one the first c numbers. -/
def sqM (n : Nat) (y : List Int) (i c : Nat) : List (List Int) := (List.range n).map fun a => if a < i then sqR n y a n else if a = i then sqR n y a c else List.replicate n 0
theorem sqR_length (n : Nat) (y : List Int) (i c : Nat) : (sqR n y i c).length = n := by simp [sqR]
theorem sqM_length (n : Nat) (y : List Int) (i c : Nat) : (sqM n y i c).length = n := by simp [sqM]
theorem sqR_zero (n : Nat) (y : List Int) (i : Nat) : sqR n y i 0 = List.replicate n 0 := by
  unfold sqR
  exact List.eq_replicate_iff.2 ⟨by simp, by intro b hb; obtain ⟨a, _, rfl⟩ := List.mem_map.1 hb; rfl⟩
theorem sqM_zero (n : Nat) (y : List Int) : sqM n y 0 0 = List.replicate n (List.replicate n 0) := by
  unfold sqM
  refine List.eq_replicate_iff.2 ⟨by simp, ?_⟩
  intro b hb
  obtain ⟨a, _, rfl⟩ := List.mem_map.1 hb
  rw [if_neg (by omega)]
  split
  · exact sqR_zero n y a
  · rfl
theorem sqM_next (n : Nat) (y : List Int) (i : Nat) : sqM n y i n = sqM n y (i + 1) 0 := by
  unfold sqM
  apply List.map_congr_left
  intro a _
  by_cases h1 : a < i
  · rw [if_pos h1, if_pos (by omega)]
  · rw [if_neg h1]
    by_cases h2 : a = i
    · rw [if_pos h2, if_pos (by omega)]
    · rw [if_neg h2, if_neg (by omega)]
      split
      · exact (sqR_zero n y a).symm
      · rfl
theorem sqM_all (n : Nat) (y : List Int) : sqM n y n 0 = (List.range n).map fun a => sqR n y a n := by
  unfold sqM
  apply List.map_congr_left
  intro a ha
  rw [if_pos (by simpa using ha)]
theorem sqM_getD (n : Nat) (y : List Int) (i c : Nat) (hi : i < n) : (sqM n y i c).getD i [] = sqR n y i c := by
  unfold sqM
  rw [List.getD_eq_getElem?_getD, List.getElem?_map, List.getElem?_range hi]
  simp
theorem sqR_set (n : Nat) (y : List Int) (i c : Nat) (hc : c < n) : (sqR n y i c).set c (sqE n i y c) = sqR n y i (c + 1) := by
  apply List.ext_getElem?
  intro j
  rw [List.getElem?_set, sqR_length]
  unfold sqR
  rw [List.getElem?_map, List.getElem?_map]
  by_cases hj : j < n
  · rw [List.getElem?_range hj]
    simp only [Option.map_some]
    by_cases e : c = j
    · subst e; rw [if_pos rfl, if_pos hc, if_pos (by omega)]
    · rw [if_neg e]
      by_cases h1 : j < c
      · rw [if_pos h1, if_pos (by omega)]
      · rw [if_neg h1, if_neg (by omega)]
  · rw [if_neg (by omega), List.getElem?_eq_none (by simpa using hj)]; rfl
theorem sqM_set (n : Nat) (y : List Int) (i c : Nat) (hi : i < n) (hc : c < n) : (sqM n y i c).set i (sqR n y i (c + 1)) = sqM n y i (c + 1) := by
  apply List.ext_getElem?
  intro j
  rw [List.getElem?_set, sqM_length]
  unfold sqM
  rw [List.getElem?_map, List.getElem?_map]
  by_cases hj : j < n
  · rw [List.getElem?_range hj]
    simp only [Option.map_some]
    by_cases e : i = j
    · subst e; rw [if_pos rfl, if_pos hi, if_neg (by omega), if_pos rfl]
    · rw [if_neg e]
      by_cases h1 : j < i
      · rw [if_pos h1, if_pos h1]
      · rw [if_neg h1, if_neg h1, if_neg (by omega), if_neg (by omega)]
  · rw [if_neg (by omega), List.getElem?_eq_none (by simpa using hj)]; rfl
/-- The square of a list, and its beginnings as rows are laid one behind the other. -/
def sqA (n : Nat) (y : List Int) (a : Nat) : List (List Int) := (List.range a).map fun i => sqR n y i n
def sqP (n : Nat) (y : List Int) (i c : Nat) : List Int := (List.range c).map fun j => sqE n i y j
theorem sqA_succ (n : Nat) (y : List Int) (a : Nat) : sqA n y (a + 1) = sqA n y a ++ [sqR n y a n] := by simp [sqA, List.range_succ]
theorem sqA_length (n : Nat) (y : List Int) (a : Nat) : (sqA n y a).length = a := by simp [sqA]
theorem sqP_succ (n : Nat) (y : List Int) (i c : Nat) : sqP n y i (c + 1) = sqP n y i c ++ [sqE n i y c] := by simp [sqP, List.range_succ]
theorem sqP_length (n : Nat) (y : List Int) (i c : Nat) : (sqP n y i c).length = c := by simp [sqP]
theorem sqP_all (n : Nat) (y : List Int) (i : Nat) : sqP n y i n = sqR n y i n := by
  unfold sqP sqR
  apply List.map_congr_left
  intro a ha
  rw [if_pos (by simpa using ha)]
theorem sqE_range {n i : Nat} {y : List Int} {j : Nat} (hn : 0 < n) (h : 0 ≤ y.getD j 0) : 0 ≤ sqE n i y j ∧ sqE n i y j < n := by
  unfold sqE
  rw [Int.tmod_eq_emod_of_nonneg (by omega)]
  exact ⟨Int.emod_nonneg _ (by omega), Int.emod_lt_of_pos _ (by omega)⟩
/-- A list of the numbers below another one, each once, not too long. -/
def listB (y : List Int) : Bool := decide (1 ≤ y.length ∧ y.length ≤ 14) && ordB y.length y
theorem listB_at {y : List Int} (h : listB y = true) : (1 ≤ y.length ∧ y.length ≤ 14) ∧ (∀ x ∈ y, 0 ≤ x ∧ x < y.length) ∧ y.Nodup := by
  unfold listB at h
  rw [Bool.and_eq_true, decide_eq_true_iff, ordB_iff] at h
  exact ⟨h.1, h.2.2⟩
theorem getD_in {y : List Int} {n : Nat} (h : ∀ x ∈ y, 0 ≤ x ∧ x < n) {j : Nat} (hj : j < y.length) : 0 ≤ y.getD j 0 ∧ y.getD j 0 < n :=
  h _ (by rw [List.getD_eq_getElem?_getD, List.getElem?_eq_getElem hj]; exact List.getElem_mem _)
/-- What SquareOfList answers. -/
def sqL (y : List Int) : List (List Int) := if listB y = true then sqA y.length y y.length else []
def sqC (y : List Int) : Int := if listB y = true then 0 else 2
theorem sqL_size (y : List Int) : (sqL y).length ≤ 14 ∧ True ∧ ∀ r ∈ sqL y, r.length ≤ 14 := by
  unfold sqL
  split
  · rename_i h
    have := (listB_at h).1
    rw [sqA_length]
    refine ⟨by omega, trivial, fun r hr => ?_⟩
    obtain ⟨a, _, rfl⟩ := List.mem_map.1 hr
    rw [sqR_length]; omega
  · exact ⟨by simp, trivial, by simp⟩
end Go.Abs
end

section
set_option linter.unusedSimpArgs false
set_option linter.unusedVariables false
namespace Go.Abs
open Go Go.RowKit

def bools (l : List Bool) : List Value := l.map .bool
theorem bools_length (l : List Bool) : (bools l).length = l.length := by simp [bools]
theorem bools_get? (l : List Bool) (i : Nat) (h : i < l.length) : (bools l)[i]? = some (.bool (l.getD i false)) := by simp [bools, h]
theorem bools_set (l : List Bool) (i : Nat) (x : Bool) : (bools l).set i (.bool x) = bools (l.set i x) := by simp [bools, List.map_set]
theorem zeros_bools (n : Nat) : zeros n [.bool false] = bools (List.replicate n false) := by
  unfold zeros bools
  induction n with
  | zero => rfl
  | succ n ih => rw [List.replicate_succ, List.flatten_cons, ih, List.replicate_succ]; rfl
theorem metL_get? (n : Nat) (y : List Int) (x : Int) (h : 0 ≤ x ∧ x < n) : (bools (metL n y))[x.toNat]? = some (.bool (y.contains x)) := by
  rw [bools_get? _ _ (by rw [metL_length]; omega), metL_getD n y x h]
theorem metL_put (n : Nat) (y : List Int) (x : Int) (h : 0 ≤ x ∧ x < n) : (bools (metL n y)).set x.toNat (.bool true) = bools (metL n (y ++ [x])) := by
  rw [bools_set, metL_set n y x h]
end Go.Abs
end

section
set_option linter.unusedSimpArgs false
set_option linter.unusedVariables false
set_option maxRecDepth 100000
set_option maxHeartbeats 2000000
namespace Go.Proofs.Ytnpmidgikbbnbaa.A
open Go Go.Abs Go.RowKit

theorem size_c (v : Value) (y : List Int) (H : AH) (hv : Rd 1 H v y.length y) (hy : y.length ≤ 4294967296) : ACalls Try.prog 84 [v] H (is (.int .i64 y.length) H) := by
  refine acalls_of_awp [.tmp 2] Try.func84 (by kernel_rfl) rfl rfl (Nat.le_of_ble_eq_true rfl) (by kernel_rfl) ?_
  try simp (disch := first | omega | (simp only [ints_length, List.length_replicate, List.length_set, sortedL_length, bools_length, metL_length]; done) | (simp only [ints_length, List.length_replicate, List.length_set, sortedL_length, bools_length, metL_length]; omega)) only [Sall,evalOp,init,binE,binI,unE,convE,okNil,builtE,gv,TD.isAgg,resV,↓reduceIte,Nat.reduceEqDiff,reduceCtorEq,Nat.reduceAdd,Nat.reduceMul,Nat.reduceLeDiff,quietOp,blindOp,Int.reduceEq,Int.reduceLT,Int.reduceLE,Nat.reduceLT,ti2,ti3,ti4,ti41,ti42,ti62,ti22,ti45,ti37,ti47,ti39,ti74,ti138,ti101,ti103,ti108,ti24,ti28,ti96, builtE, hv.len, is]

theorem evo_nilF (t : T) : evo t (.const .nilFunc) = some .nilFunc := (rfl)
theorem values_c (v : Value) (H : AH) (ho : v.oneCell' = true) :
    ACalls Try.prog 107 [v] H (is (.func (.func 133) #[] #[.pointer (some ⟨H.next, 0, none⟩)]) (H.push ⟨62, true, [v]⟩)) := by
  refine acalls_of_awp [.tmp 2] Try.func107 (by kernel_rfl) rfl rfl (Nat.le_of_ble_eq_true rfl) (by kernel_rfl) ?_
  try simp (disch := first | omega | (simp only [ints_length, List.length_replicate, List.length_set, sortedL_length, bools_length, metL_length]; done) | (simp only [ints_length, List.length_replicate, List.length_set, sortedL_length, bools_length, metL_length]; omega)) only [Sall,evalOp,init,binE,binI,unE,convE,okNil,builtE,gv,TD.isAgg,resV,↓reduceIte,Nat.reduceEqDiff,reduceCtorEq,Nat.reduceAdd,Nat.reduceMul,Nat.reduceLeDiff,quietOp,blindOp,Int.reduceEq,Int.reduceLT,Int.reduceLE,Nat.reduceLT,ti2,ti3,ti4,ti41,ti42,ti62,ti22,ti45,ti37,ti47,ti39,ti74,ti138,ti101,ti103,ti108,ti24,ti28,ti96, ho, asCells_one ho, evo_nilF, List.mem_cons, List.not_mem_nil, or_false, forall_eq_or_imp, forall_eq, Array.size_empty, is]

theorem isOrder_c (n : Nat) (v : Value) (y : List Int) (H : AH) (hv : Rd 1 H v y.length y) (hy : y.length ≤ 4294967296) :
    ACalls Try.prog 140 [v, .int .i64 n] H (is (.bool (ordB n y)) H) := by
  refine acalls_up rfl (ACalls.wf (by kernel_rfl) fun hs => acalls_of_awp [.tmp 4] Try.func140 (by kernel_rfl) rfl rfl (Nat.le_of_ble_eq_true rfl) (by kernel_rfl) ?_)
  try simp (disch := first | omega | (simp only [ints_length, List.length_replicate, List.length_set, sortedL_length, bools_length, metL_length]; done) | (simp only [ints_length, List.length_replicate, List.length_set, sortedL_length, bools_length, metL_length]; omega)) only [Sall,evalOp,init,binE,binI,unE,convE,okNil,builtE,gv,TD.isAgg,resV,↓reduceIte,Nat.reduceEqDiff,reduceCtorEq,Nat.reduceAdd,Nat.reduceMul,Nat.reduceLeDiff,quietOp,blindOp,Int.reduceEq,Int.reduceLT,Int.reduceLE,Nat.reduceLT,ti2,ti3,ti4,ti41,ti42,ti62,ti22,ti45,ti37,ti47,ti39,ti74,ti138,ti101,ti103,ti108,ti24,ti28,ti96, true_and]
  refine (values_c v H hv.one).to ?_
  try simp (disch := first | omega | (simp only [ints_length, List.length_replicate, List.length_set, sortedL_length, bools_length, metL_length]; done) | (simp only [ints_length, List.length_replicate, List.length_set, sortedL_length, bools_length, metL_length]; omega)) only [Sall,evalOp,init,binE,binI,unE,convE,okNil,builtE,gv,TD.isAgg,resV,↓reduceIte,Nat.reduceEqDiff,reduceCtorEq,Nat.reduceAdd,Nat.reduceMul,Nat.reduceLeDiff,quietOp,blindOp,Int.reduceEq,Int.reduceLT,Int.reduceLE,Nat.reduceLT,ti2,ti3,ti4,ti41,ti42,ti62,ti22,ti45,ti37,ti47,ti39,ti74,ti138,ti101,ti103,ti108,ti24,ti28,ti96, true_and]
  have up : Up H.next H (H.push ⟨62, true, [v]⟩) := (Up.refl _ H).push (Nat.le_refl _) _
  have e1 : (H.push ⟨62, true, [v]⟩).row H.next = some ⟨62, true, [v]⟩ := by rw [AH.push_row, if_pos rfl]
  have n1 : (H.push ⟨62, true, [v]⟩).next = H.next + 1 := rfl
  revert up e1 n1
  generalize H.push ⟨62, true, [v]⟩ = H1
  intro up e1 n1
  refine (sorted_c H.next v y H1 e1 (hv.same (up.le hs).row) hy).mono ?_
  rintro u H2 ⟨up2, hf⟩
  have hl2 := sortedL_length y
  have u2 : Up H.next H H2 := up.trans up2 (by omega)
  refine Holds.mp ?_
  try simp (disch := first | omega | (simp only [ints_length, List.length_replicate, List.length_set, sortedL_length, bools_length, metL_length]; done) | (simp only [ints_length, List.length_replicate, List.length_set, sortedL_length, bools_length, metL_length]; omega)) only [Sall,evalOp,init,binE,binI,unE,convE,okNil,builtE,gv,TD.isAgg,resV,↓reduceIte,Nat.reduceEqDiff,reduceCtorEq,Nat.reduceAdd,Nat.reduceMul,Nat.reduceLeDiff,quietOp,blindOp,Int.reduceEq,Int.reduceLT,Int.reduceLE,Nat.reduceLT,ti2,ti3,ti4,ti41,ti42,ti62,ti22,ti45,ti37,ti47,ti39,ti74,ti138,ti101,ti103,ti108,ti24,ti28,ti96, builtE, hf.rd.len]
  refine awp_loop (fun m t H' => ∃ a : Nat, m = y.length - a ∧ a ≤ y.length ∧ t 13 = .int .i64 a ∧ t 12 = .int .i64 y.length ∧ t 11 = u ∧ t 0 = v ∧ t 1 = .int .i64 n ∧ H' = H2 ∧ (∀ i, i < a → (sortedL y).getD i 0 = (i : Int))) y.length ?_ ?_
  · refine ⟨0, by omega, by omega, ?_⟩
    try simp (disch := first | omega | (simp only [ints_length, List.length_replicate, List.length_set, sortedL_length, bools_length, metL_length]; done) | (simp only [ints_length, List.length_replicate, List.length_set, sortedL_length, bools_length, metL_length]; omega)) only [Sall,evalOp,init,binE,binI,unE,convE,okNil,builtE,gv,TD.isAgg,resV,↓reduceIte,Nat.reduceEqDiff,reduceCtorEq,Nat.reduceAdd,Nat.reduceMul,Nat.reduceLeDiff,quietOp,blindOp,Int.reduceEq,Int.reduceLT,Int.reduceLE,Nat.reduceLT,ti2,ti3,ti4,ti41,ti42,ti62,ti22,ti45,ti37,ti47,ti39,ti74,ti138,ti101,ti103,ti108,ti24,ti28,ti96, Int.natCast_zero, Nat.not_lt_zero, false_implies]
  · rintro m t H' ⟨a, hm, han, h13, h12, h11, h0, h1, rfl, hall⟩
    try simp (disch := first | omega | (simp only [ints_length, List.length_replicate, List.length_set, sortedL_length, bools_length, metL_length]; done) | (simp only [ints_length, List.length_replicate, List.length_set, sortedL_length, bools_length, metL_length]; omega)) only [Sall,evalOp,init,binE,binI,unE,convE,okNil,builtE,gv,TD.isAgg,resV,↓reduceIte,Nat.reduceEqDiff,reduceCtorEq,Nat.reduceAdd,Nat.reduceMul,Nat.reduceLeDiff,quietOp,blindOp,Int.reduceEq,Int.reduceLT,Int.reduceLE,Nat.reduceLT,ti2,ti3,ti4,ti41,ti42,ti62,ti22,ti45,ti37,ti47,ti39,ti74,ti138,ti101,ti103,ti108,ti24,ti28,ti96, h13, h12]
    refine condC_dec (fun h => ?_) (fun h => ?_)
    · obtain ⟨i, o, uu, cc, r, rfl, hr, _, hg, _⟩ := hf.rd.get (by omega)
      have g1 := hg a (by omega)
      by_cases hx : (sortedL y).getD a 0 = (a : Int)
      · have e2 : ((sortedL y).getD a 0 != (a : Int)) = false := by rw [hx]; exact bne_self_eq_false _
        try simp (disch := first | omega | (simp only [ints_length, List.length_replicate, List.length_set, sortedL_length, bools_length, metL_length]; done) | (simp only [ints_length, List.length_replicate, List.length_set, sortedL_length, bools_length, metL_length]; omega)) only [Sall,evalOp,init,binE,binI,unE,convE,okNil,builtE,gv,TD.isAgg,resV,↓reduceIte,Nat.reduceEqDiff,reduceCtorEq,Nat.reduceAdd,Nat.reduceMul,Nat.reduceLeDiff,quietOp,blindOp,Int.reduceEq,Int.reduceLT,Int.reduceLE,Nat.reduceLT,ti2,ti3,ti4,ti41,ti42,ti62,ti22,ti45,ti37,ti47,ti39,ti74,ti138,ti101,ti103,ti108,ti24,ti28,ti96, h13, h12, h11, h0, h1, hr, g1, e2, w64]
        (repeat refine And.intro (by omega) ?_)
        refine ⟨y.length - (a + 1), by omega, a + 1, rfl, by omega, rfl, fun i hi => ?_⟩
        by_cases e : i = a
        · rw [e]; exact hx
        · exact hall i (by omega)
      · have e2 : ((sortedL y).getD a 0 != (a : Int)) = true := bne_iff_ne.2 hx
        try simp (disch := first | omega | (simp only [ints_length, List.length_replicate, List.length_set, sortedL_length, bools_length, metL_length]; done) | (simp only [ints_length, List.length_replicate, List.length_set, sortedL_length, bools_length, metL_length]; omega)) only [Sall,evalOp,init,binE,binI,unE,convE,okNil,builtE,gv,TD.isAgg,resV,↓reduceIte,Nat.reduceEqDiff,reduceCtorEq,Nat.reduceAdd,Nat.reduceMul,Nat.reduceLeDiff,quietOp,blindOp,Int.reduceEq,Int.reduceLT,Int.reduceLE,Nat.reduceLT,ti2,ti3,ti4,ti41,ti42,ti62,ti22,ti45,ti37,ti47,ti39,ti74,ti138,ti101,ti103,ti108,ti24,ti28,ti96, h13, h12, h11, h0, h1, hr, g1, e2, w64]
        (repeat refine And.intro (by omega) ?_)
        rw [ordB_sorted_bad (by omega) hx]
        exact ⟨rfl, u2⟩
    · try simp (disch := first | omega | (simp only [ints_length, List.length_replicate, List.length_set, sortedL_length, bools_length, metL_length]; done) | (simp only [ints_length, List.length_replicate, List.length_set, sortedL_length, bools_length, metL_length]; omega)) only [Sall,evalOp,init,binE,binI,unE,convE,okNil,builtE,gv,TD.isAgg,resV,↓reduceIte,Nat.reduceEqDiff,reduceCtorEq,Nat.reduceAdd,Nat.reduceMul,Nat.reduceLeDiff,quietOp,blindOp,Int.reduceEq,Int.reduceLT,Int.reduceLE,Nat.reduceLT,ti2,ti3,ti4,ti41,ti42,ti62,ti22,ti45,ti37,ti47,ti39,ti74,ti138,ti101,ti103,ti108,ti24,ti28,ti96, h0, h1]
      have ha : a = y.length := by omega
      subst ha
      refine (size_c v y H' (hv.same (u2.le hs).row) hy).to ?_
      try simp (disch := first | omega | (simp only [ints_length, List.length_replicate, List.length_set, sortedL_length, bools_length, metL_length]; done) | (simp only [ints_length, List.length_replicate, List.length_set, sortedL_length, bools_length, metL_length]; omega)) only [Sall,evalOp,init,binE,binI,unE,convE,okNil,builtE,gv,TD.isAgg,resV,↓reduceIte,Nat.reduceEqDiff,reduceCtorEq,Nat.reduceAdd,Nat.reduceMul,Nat.reduceLeDiff,quietOp,blindOp,Int.reduceEq,Int.reduceLT,Int.reduceLE,Nat.reduceLT,ti2,ti3,ti4,ti41,ti42,ti62,ti22,ti45,ti37,ti47,ti39,ti74,ti138,ti101,ti103,ti108,ti24,ti28,ti96, h1]
      rw [ordB_sorted_all hall]
      refine ⟨?_, u2⟩
      by_cases e : y.length = n
      · rw [decide_eq_true e, e]; simp
      · rw [decide_eq_false e]; simp; omega
end Go.Proofs.Ytnpmidgikbbnbaa.A
end

section
set_option linter.unusedSimpArgs false
set_option linter.unusedVariables false
namespace Go.Abs

def rowOkB (n : Nat) (r : List Int) : Bool := decide (r.length = n) && (List.range r.length).all fun j => decide (0 ≤ r.getD j 0 ∧ r.getD j 0 ≤ (n : Int) - 1)
def haveB (n : Int) (ll : List (List Int)) : Bool := decide (1 ≤ n ∧ n ≤ 14) && (decide (ll.length = n.toNat) && (List.range ll.length).all fun i => rowOkB n.toNat (ll.getD i []))
/-- The first c numbers of a column. -/
def colL (ll : List (List Int)) (i c : Nat) : List Int := (List.range c).map fun k => (ll.getD k []).getD i 0
theorem colL_succ (ll : List (List Int)) (i c : Nat) : colL ll i (c + 1) = colL ll i c ++ [(ll.getD c []).getD i 0] := by simp [colL, List.range_succ]
theorem colL_length (ll : List (List Int)) (i c : Nat) : (colL ll i c).length = c := by simp [colL]
def latAt (n : Nat) (ll : List (List Int)) (i : Nat) : Bool := ordB n (ll.getD i []) && ordB n (colL ll i n)
def latB (n : Nat) (ll : List (List Int)) : Bool := (List.range n).all fun i => latAt n ll i
theorem haveB_at {n : Int} {ll : List (List Int)} (h : haveB n ll = true) : ∃ m : Nat, n = m ∧ 1 ≤ m ∧ m ≤ 14 ∧ ll.length = m ∧ ∀ i, i < m → (ll.getD i []).length = m ∧ ∀ j, j < m → 0 ≤ (ll.getD i []).getD j 0 ∧ (ll.getD i []).getD j 0 < m := by
  unfold haveB at h
  rw [Bool.and_eq_true, Bool.and_eq_true, decide_eq_true_iff, decide_eq_true_iff, List.all_eq_true] at h
  obtain ⟨h1, h2, h3⟩ := h
  refine ⟨n.toNat, by omega, by omega, by omega, h2, fun i hi => ?_⟩
  have h4 := h3 i (by simp; omega)
  unfold rowOkB at h4
  rw [Bool.and_eq_true, decide_eq_true_iff, List.all_eq_true] at h4
  refine ⟨h4.1, fun j hj => ?_⟩
  have h5 := of_decide_eq_true (h4.2 j (by rw [h4.1]; simpa using hj))
  omega
/-- What IsSquareOf answers. -/
def sqoC (n : Int) (ll : List (List Int)) : Int := if haveB n ll = true then 0 else 2
def sqoB (n : Int) (ll : List (List Int)) : Bool := haveB n ll && latB n.toNat ll
end Go.Abs
end

section
set_option linter.unusedSimpArgs false
set_option linter.unusedVariables false
set_option maxRecDepth 100000
set_option maxHeartbeats 2000000
namespace Go.Proofs.Ytnpmidgikbbnbaa.A
open Go Go.Abs Go.RowKit

theorem indexFuncLL_c (g : FuncId) (cap : List Value) (p : List Int → Bool) (x : Value) (ll : List (List Int)) (H : AH) (hx : Rd2 1 H x ll) (hl : ll.length ≤ 4294967296)
    (hp : ∀ (y : Value) (r : List Int), r ∈ ll → Rd 1 H y r.length r → ACalls Try.prog g (y :: cap) H (is (.bool (p r)) H)) :
    ACalls Try.prog 117 [x, .func (.func g) #[] cap.toArray] H (is (.int .i64 (firstI (fun i => p (ll.getD i [])) ll.length)) H) := by
  refine acalls_of_awp [.tmp 4] Try.func117 (by kernel_rfl) rfl rfl (Nat.le_of_ble_eq_true rfl) (by kernel_rfl) ?_
  try simp (disch := first | omega | (simp only [ints_length, List.length_replicate, List.length_set, colL_length]; done) | (simp only [ints_length, List.length_replicate, List.length_set, colL_length]; omega)) only [Sall,evalOp,init,binE,binI,unE,convE,okNil,builtE,gv,TD.isAgg,resV,↓reduceIte,Nat.reduceEqDiff,reduceCtorEq,Nat.reduceAdd,Nat.reduceMul,Nat.reduceLeDiff,quietOp,blindOp,Int.reduceEq,Int.reduceLT,Int.reduceLE,Nat.reduceLT,ti2,ti3,ti4,ti41,ti42,ti62,ti22,ti45,ti37,ti47,ti39,ti74,ti138,ti101,ti103,ti108,ti24,ti28,ti96, builtE, hx.len]
  refine awp_loop (fun m t H' => ∃ a : Nat, m = ll.length - a ∧ a ≤ ll.length ∧ t 8 = .int .i64 a ∧ t 7 = .int .i64 ll.length ∧ t 0 = x ∧ t 1 = .func (.func g) #[] cap.toArray ∧ H' = H ∧ (∀ i, i < a → p (ll.getD i []) = false)) ll.length ?_ ?_
  · refine ⟨0, by omega, by omega, ?_⟩
    try simp (disch := first | omega | (simp only [ints_length, List.length_replicate, List.length_set, colL_length]; done) | (simp only [ints_length, List.length_replicate, List.length_set, colL_length]; omega)) only [Sall,evalOp,init,binE,binI,unE,convE,okNil,builtE,gv,TD.isAgg,resV,↓reduceIte,Nat.reduceEqDiff,reduceCtorEq,Nat.reduceAdd,Nat.reduceMul,Nat.reduceLeDiff,quietOp,blindOp,Int.reduceEq,Int.reduceLT,Int.reduceLE,Nat.reduceLT,ti2,ti3,ti4,ti41,ti42,ti62,ti22,ti45,ti37,ti47,ti39,ti74,ti138,ti101,ti103,ti108,ti24,ti28,ti96, Int.natCast_zero, Nat.not_lt_zero, false_implies]
  · rintro m t H' ⟨a, hm, h14, h8, h7, h0, h1, rfl, hall⟩
    try simp (disch := first | omega | (simp only [ints_length, List.length_replicate, List.length_set, colL_length]; done) | (simp only [ints_length, List.length_replicate, List.length_set, colL_length]; omega)) only [Sall,evalOp,init,binE,binI,unE,convE,okNil,builtE,gv,TD.isAgg,resV,↓reduceIte,Nat.reduceEqDiff,reduceCtorEq,Nat.reduceAdd,Nat.reduceMul,Nat.reduceLeDiff,quietOp,blindOp,Int.reduceEq,Int.reduceLT,Int.reduceLE,Nat.reduceLT,ti2,ti3,ti4,ti41,ti42,ti62,ti22,ti45,ti37,ti47,ti39,ti74,ti138,ti101,ti103,ti108,ti24,ti28,ti96, h8, h7]
    refine condC_dec (fun h => ?_) (fun h => ?_)
    · obtain ⟨i, o, u, c, r, y, my, rfl, hr, hy, hsx, hok⟩ := hx.get (j := a) (by omega)
      have hmm := hsx.lenK1
      rw [hmm] at hsx
      try simp (disch := first | omega | (simp only [ints_length, List.length_replicate, List.length_set, colL_length]; done) | (simp only [ints_length, List.length_replicate, List.length_set, colL_length]; omega)) only [Sall,evalOp,init,binE,binI,unE,convE,okNil,builtE,gv,TD.isAgg,resV,↓reduceIte,Nat.reduceEqDiff,reduceCtorEq,Nat.reduceAdd,Nat.reduceMul,Nat.reduceLeDiff,quietOp,blindOp,Int.reduceEq,Int.reduceLT,Int.reduceLE,Nat.reduceLT,ti2,ti3,ti4,ti41,ti42,ti62,ti22,ti45,ti37,ti47,ti39,ti74,ti138,ti101,ti103,ti108,ti24,ti28,ti96, h8, h7, h0, h1, hr, hy, hok]
      (repeat refine And.intro (by omega) ?_)
      refine (hp y _ (getD_mem (ll := ll) (a := a) (by omega)) hsx).to ?_
      cases hb : p (ll.getD a []) with
      | true =>
        try simp (disch := first | omega | (simp only [ints_length, List.length_replicate, List.length_set, colL_length]; done) | (simp only [ints_length, List.length_replicate, List.length_set, colL_length]; omega)) only [Sall,evalOp,init,binE,binI,unE,convE,okNil,builtE,gv,TD.isAgg,resV,↓reduceIte,Nat.reduceEqDiff,reduceCtorEq,Nat.reduceAdd,Nat.reduceMul,Nat.reduceLeDiff,quietOp,blindOp,Int.reduceEq,Int.reduceLT,Int.reduceLE,Nat.reduceLT,ti2,ti3,ti4,ti41,ti42,ti62,ti22,ti45,ti37,ti47,ti39,ti74,ti138,ti101,ti103,ti108,ti24,ti28,ti96, h8, h7, h0, h1, is]
        rw [firstI_at (p := fun i => p (ll.getD i [])) (by omega) hb hall]
      | false =>
        try simp (disch := first | omega | (simp only [ints_length, List.length_replicate, List.length_set, colL_length]; done) | (simp only [ints_length, List.length_replicate, List.length_set, colL_length]; omega)) only [Sall,evalOp,init,binE,binI,unE,convE,okNil,builtE,gv,TD.isAgg,resV,↓reduceIte,Nat.reduceEqDiff,reduceCtorEq,Nat.reduceAdd,Nat.reduceMul,Nat.reduceLeDiff,quietOp,blindOp,Int.reduceEq,Int.reduceLT,Int.reduceLE,Nat.reduceLT,ti2,ti3,ti4,ti41,ti42,ti62,ti22,ti45,ti37,ti47,ti39,ti74,ti138,ti101,ti103,ti108,ti24,ti28,ti96, h8, h7, h0, h1, w64]
        refine ⟨ll.length - (a + 1), by omega, a + 1, rfl, by omega, by omega, fun x hx => ?_⟩
        by_cases e : x = a
        · rw [e]; exact hb
        · exact hall x (by omega)
    · try simp (disch := first | omega | (simp only [ints_length, List.length_replicate, List.length_set, colL_length]; done) | (simp only [ints_length, List.length_replicate, List.length_set, colL_length]; omega)) only [Sall,evalOp,init,binE,binI,unE,convE,okNil,builtE,gv,TD.isAgg,resV,↓reduceIte,Nat.reduceEqDiff,reduceCtorEq,Nat.reduceAdd,Nat.reduceMul,Nat.reduceLeDiff,quietOp,blindOp,Int.reduceEq,Int.reduceLT,Int.reduceLE,Nat.reduceLT,ti2,ti3,ti4,ti41,ti42,ti62,ti22,ti45,ti37,ti47,ti39,ti74,ti138,ti101,ti103,ti108,ti24,ti28,ti96, is]
      rw [firstI_none (p := fun i => p (ll.getD i [])) fun x hx => hall x (by omega)]

theorem containsFuncLL_c (g : FuncId) (cap : List Value) (p : List Int → Bool) (x : Value) (ll : List (List Int)) (H : AH) (hx : Rd2 1 H x ll) (hl : ll.length ≤ 4294967296)
    (hp : ∀ (y : Value) (r : List Int), r ∈ ll → Rd 1 H y r.length r → ACalls Try.prog g (y :: cap) H (is (.bool (p r)) H)) :
    ACalls Try.prog 82 [x, .func (.func g) #[] cap.toArray] H (is (.bool ((List.range ll.length).any fun i => p (ll.getD i []))) H) := by
  refine acalls_of_awp [.tmp 4] Try.func82 (by kernel_rfl) rfl rfl (Nat.le_of_ble_eq_true rfl) (by kernel_rfl) ?_
  try simp (disch := first | omega | (simp only [ints_length, List.length_replicate, List.length_set, colL_length]; done) | (simp only [ints_length, List.length_replicate, List.length_set, colL_length]; omega)) only [Sall,evalOp,init,binE,binI,unE,convE,okNil,builtE,gv,TD.isAgg,resV,↓reduceIte,Nat.reduceEqDiff,reduceCtorEq,Nat.reduceAdd,Nat.reduceMul,Nat.reduceLeDiff,quietOp,blindOp,Int.reduceEq,Int.reduceLT,Int.reduceLE,Nat.reduceLT,ti2,ti3,ti4,ti41,ti42,ti62,ti22,ti45,ti37,ti47,ti39,ti74,ti138,ti101,ti103,ti108,ti24,ti28,ti96, true_and]
  refine (indexFuncLL_c g cap p x ll H hx hl hp).to ?_
  try simp (disch := first | omega | (simp only [ints_length, List.length_replicate, List.length_set, colL_length]; done) | (simp only [ints_length, List.length_replicate, List.length_set, colL_length]; omega)) only [Sall,evalOp,init,binE,binI,unE,convE,okNil,builtE,gv,TD.isAgg,resV,↓reduceIte,Nat.reduceEqDiff,reduceCtorEq,Nat.reduceAdd,Nat.reduceMul,Nat.reduceLeDiff,quietOp,blindOp,Int.reduceEq,Int.reduceLT,Int.reduceLE,Nat.reduceLT,ti2,ti3,ti4,ti41,ti42,ti62,ti22,ti45,ti37,ti47,ti39,ti74,ti138,ti101,ti103,ti108,ti24,ti28,ti96, is, firstI_any]

theorem any_not_all (n : Nat) (p : Nat → Bool) : ((List.range n).any fun i => !p i) = !((List.range n).all p) := by
  rw [List.any_eq_not_all_not]
  simp

theorem sizeLL_c (x : Value) (ll : List (List Int)) (H : AH) (hx : Rd2 1 H x ll) (hl : ll.length ≤ 4294967296) : ACalls Try.prog 81 [x] H (is (.int .i64 ll.length) H) := by
  refine acalls_of_awp [.tmp 2] Try.func81 (by kernel_rfl) rfl rfl (Nat.le_of_ble_eq_true rfl) (by kernel_rfl) ?_
  try simp (disch := first | omega | (simp only [ints_length, List.length_replicate, List.length_set, colL_length]; done) | (simp only [ints_length, List.length_replicate, List.length_set, colL_length]; omega)) only [Sall,evalOp,init,binE,binI,unE,convE,okNil,builtE,gv,TD.isAgg,resV,↓reduceIte,Nat.reduceEqDiff,reduceCtorEq,Nat.reduceAdd,Nat.reduceMul,Nat.reduceLeDiff,quietOp,blindOp,Int.reduceEq,Int.reduceLT,Int.reduceLE,Nat.reduceLT,ti2,ti3,ti4,ti41,ti42,ti62,ti22,ti45,ti37,ti47,ti39,ti74,ti138,ti101,ti103,ti108,ti24,ti28,ti96, builtE, hx.len, is]

end Go.Proofs.Ytnpmidgikbbnbaa.A
end

section
set_option linter.unusedSimpArgs false
set_option linter.unusedVariables false
namespace Go.Abs
open Go Go.RowKit

/-- x reads y out of rows in [lo, hi) other than i. -/
def Pt (lo hi i : Nat) (H : AH) (x : Value) (y : List Int) : Prop := ∀ H', (∀ z r, lo ≤ z → z < hi → ¬ z = i → H.row z = some r → H'.row z = some r) → Rd 1 H' x y.length y

def FrV (ty lo hi : Nat) (H : AH) (v : Value) (ll : List (List Int)) : Prop :=
  (ll = [] ∧ v = .slice none 0 0) ∨ ∃ i vs, lo ≤ i ∧ i < hi ∧ v = .slice (some ⟨i, 0, some 1⟩) ll.length ll.length ∧ H.row i = some ⟨ty, true, vs⟩ ∧ vs.length = ll.length ∧ ∀ j, j < ll.length → ∃ x, vs[j]? = some x ∧ Pt lo hi i H x (ll.getD j [])

theorem FrV.same {ty lo hi : Nat} {H H' : AH} {v : Value} {ll : List (List Int)} (h : FrV ty lo hi H v ll) (hs : ∀ i, lo ≤ i → i < hi → H'.row i = H.row i) : FrV ty lo hi H' v ll := by
  rcases h with h | ⟨i, vs, h1, h2, hv, hr, hl, hj⟩
  · exact .inl h
  · refine .inr ⟨i, vs, h1, h2, hv, by rw [hs i h1 h2]; exact hr, hl, fun j hjl => ?_⟩
    obtain ⟨x, hx, hp⟩ := hj j hjl
    exact ⟨x, hx, fun H2 h2 => hp H2 fun z r z1 z2 z3 hz => h2 z r z1 z2 z3 (by rw [hs z z1 z2]; exact hz)⟩
theorem FrV.wide {ty lo hi lo' hi' : Nat} {H : AH} {v : Value} {ll : List (List Int)} (h : FrV ty lo hi H v ll) (a : lo' ≤ lo) (c : hi ≤ hi') : FrV ty lo' hi' H v ll := by
  rcases h with h | ⟨i, vs, h1, h2, hv, hr, hl, hj⟩
  · exact .inl h
  · refine .inr ⟨i, vs, by omega, by omega, hv, hr, hl, fun j hjl => ?_⟩
    obtain ⟨x, hx, hp⟩ := hj j hjl
    exact ⟨x, hx, fun H2 h2 => hp H2 fun z r z1 z2 z3 hz => h2 z r (by omega) (by omega) z3 hz⟩
theorem FrV.rd {ty lo hi : Nat} {H : AH} {v : Value} {ll : List (List Int)} (h : FrV ty lo hi H v ll) : Rd2 1 H v ll := by
  rcases h with ⟨h1, h2⟩ | ⟨i, vs, h1, h2, rfl, hr, hl, hj⟩
  · exact .inl ⟨h1, none, 0, h2, fun _ => rfl⟩
  · refine .inr ⟨i, 0, some 1, _, _, rfl, hr, fun j hjl => ?_⟩
    obtain ⟨x, hx, hp⟩ := hj j hjl
    exact ⟨x, _, by simpa using hx, hp H fun _ _ _ _ _ h => h⟩
theorem Fr2.frV {ty ty' lo hi : Nat} {H : AH} {v : Value} {ll : List (List Int)} (h : Fr2 1 ty ty' lo hi H v ll) : FrV ty lo hi H v ll := by
  rcases h with h | ⟨i, vs, b, h1, h2, rfl, hr, hl, g0, gn, gi, gm, hh⟩
  · exact .inl h
  · refine .inr ⟨i, vs, h1, h2, rfl, hr, hl, fun j hjl => ?_⟩
    obtain ⟨x, m, hx, hf⟩ := hh j hjl
    have m1 := mono_of_step gm (Nat.zero_le j)
    have m2 := mono_of_step gm (show j + 1 ≤ ll.length from hjl)
    refine ⟨x, hx, fun H2 h2 => ?_⟩
    have hm := hf.lenK1
    refine hm ▸ Fr.rd (ty := ty') (lo := b j) (hi := b (j + 1)) ⟨hf.1, ?_⟩
    rcases hf.2 with h3 | ⟨q, q1, q2, q3, q4⟩
    · exact .inl h3
    · exact .inr ⟨q, q1, q2, q3, h2 q _ (by omega) (by omega) (by omega) q4⟩

theorem seg_whole (l : List Value) (n : Nat) (h : l.length = n) : seg l 0 n = l := seg_all _ _ h.symm

/-- Slices of slices, one appended to the other. -/
theorem appE_frV {P : Program} {E : TI} {ty lo hi lo' hi' : Nat} {H : AH} {v x : Value} {ll ll' : List (List Int)} {K : Value → AH → Prop} (h : FrV ty lo hi H v ll) (hx : FrV ty lo' hi' H x ll') (hE : E.size = 1) (hb : E.bytes ≤ 32768) (hn : ll.length + ll'.length ≤ 4294967296) (hlo : lo ≤ hi) (hhi : hi ≤ lo') (hhi' : hi' ≤ H.next) (hhN : hi ≤ H.next)
    (hK : ∀ v' H', H.next ≤ H'.next → (∀ i, ¬(lo ≤ i ∧ i < hi) → i < H.next → H'.row i = H.row i) → FrV ty lo H'.next H' v' (ll ++ ll') → K v' H') :
    runOut P H (slCells H E.size x fun xs m => appE E ty v xs m H) K := by
  have none0 : ll' = [] → runOut P H (appE E ty v [] 0 H) K := by
    intro e0
    rw [e0] at hK
    clear hx
    unfold appE
    rw [if_pos rfl]
    refine Holds.mp ?_
    rcases h with ⟨rfl, rfl⟩ | ⟨i, vs, h1, h2, rfl, hr, hl, hj⟩ <;> rw [holds_def]
    · simp only [asSl_nil, runOut_val]
      exact hK _ _ (Nat.le_refl _) (fun _ _ _ => rfl) (.inl ⟨rfl, rfl⟩)
    · simp only [asSl_some, runOut_need, runOut_val]
      refine ⟨(fun h => by cases h), hK _ _ (Nat.le_refl _) (fun _ _ _ => rfl) ?_⟩
      rw [List.append_nil]
      exact FrV.wide (lo := lo) (hi := hi) (.inr ⟨i, vs, h1, h2, rfl, hr, hl, hj⟩) (Nat.le_refl _) hhN
  refine Holds.mp ?_
  rcases hx with ⟨e0, rfl⟩ | ⟨i', vs', q1, q2, rfl, qr, ql, qj⟩ <;> rw [holds_def]
  · unfold slCells
    simp only [asSl_nil]
    exact none0 e0
  · unfold slCells
    simp only [asSl_some, qr, bindO_some, runOut_need, hE, Nat.mul_one, Nat.zero_add]
    refine ⟨⟨by omega, .inl rfl⟩, ?_⟩
    rw [seg_whole _ _ ql]
    by_cases h0 : ll'.length = 0
    · have e0 : ll' = [] := List.eq_nil_of_length_eq_zero h0
      have ev : vs' = [] := List.eq_nil_of_length_eq_zero (by omega)
      rw [ev, h0]
      exact none0 e0
    · have inner : ∀ (H2 : AH), H.next < H2.next → (∀ z r, lo' ≤ z → z < hi' → ¬ z = i' → H.row z = some r → H2.row z = some r) → ∀ j, j < ll'.length → ∃ y, vs'[j]? = some y ∧ Pt lo H2.next H.next H2 y (ll'.getD j []) := by
        intro H2 hn2 hs2 j hj
        obtain ⟨y, hy, hp⟩ := qj j hj
        exact ⟨y, hy, fun H3 h3 => hp H3 fun z r z1 z2 z3 hz => h3 z r (by omega) (by omega) (by omega) (hs2 z r z1 z2 z3 hz)⟩
      unfold appE
      rw [if_neg h0]
      refine Holds.mp ?_
      rcases h with ⟨rfl, rfl⟩ | ⟨i, vs, h1, h2, rfl, hr, hl, hj⟩ <;> rw [holds_def]
      · simp only [asSl_nil, runOut_need, runOut_val, hE]
        simp only [List.length_nil, Nat.zero_add] at hn
        refine ⟨⟨hn, hb⟩, hK _ _ (Nat.le_succ _) (fun i _ hi => by rw [AH.push_row, if_neg (by omega)]) ?_⟩
        refine .inr ⟨H.next, vs', by omega, by rw [AH.push_next]; omega, rfl, by rw [AH.push_row, if_pos rfl], ql, ?_⟩
        exact inner _ (by rw [AH.push_next]; omega) fun z r z1 z2 _ hz => by rw [AH.push_row, if_neg (by omega)]; exact hz
      · simp only [asSl_some, hr, bindO_some, runOut_need, Nat.zero_add, hE, Nat.mul_one]
        refine ⟨⟨hn, hb, by omega, .inl rfl⟩, ?_⟩
        rw [if_neg (by omega)]
        simp only [runOut_need, runOut_val]
        rw [seg_whole _ _ hl]
        refine ⟨by simp, hK _ _ (by rw [AH.push_next, AH.drop_next]; omega) (fun z hz hz2 => ?_) (.inr ⟨H.next, vs ++ vs', by omega, by rw [AH.push_next, AH.drop_next]; omega, ?_, ?_, ?_, fun j hjl => ?_⟩)⟩
        · rw [AH.push_row, if_neg (by rw [AH.drop_next]; omega), AH.drop_row, if_neg (by omega)]
        · rw [List.length_append]
        · rw [AH.push_row, AH.drop_next, if_pos rfl]
        · rw [List.length_append, List.length_append, hl, ql]
        · rw [List.length_append] at hjl
          have old : ∀ z r, z < H.next → ¬ z = i → H.row z = some r → ((H.drop i).push ⟨ty, true, vs ++ vs'⟩).row z = some r := fun z r z1 z2 hz => by
            rw [AH.push_row, if_neg (by rw [AH.drop_next]; omega), AH.drop_row, if_neg z2]; exact hz
          by_cases c : j < ll.length
          · obtain ⟨y, hy, hp⟩ := hj j c
            refine ⟨y, by rw [List.getElem?_append_left (by omega), hy], ?_⟩
            have e1 : (ll ++ ll').getD j [] = ll.getD j [] := by simp [List.getD_eq_getElem?_getD, List.getElem?_append_left c]
            rw [e1]
            exact fun H3 h3 => hp H3 fun z r z1 z2 z3 hz => h3 z r z1 (by rw [AH.push_next, AH.drop_next]; omega) (by omega) (old z r (by omega) z3 hz)
          · obtain ⟨y, hy, hp⟩ := inner ((H.drop i).push ⟨ty, true, vs ++ vs'⟩) (by rw [AH.push_next, AH.drop_next]; omega) (fun z r z1 z2 z3 hz => old z r (by omega) (by omega) hz) (j - ll.length) (by omega)
            refine ⟨y, by rw [List.getElem?_append_right (by omega), hl]; exact hy, ?_⟩
            have e1 : (ll ++ ll').getD j [] = ll'.getD (j - ll.length) [] := by simp [List.getD_eq_getElem?_getD, List.getElem?_append_right (show ll.length ≤ j by omega)]
            rw [e1]
            exact hp

theorem cells_of_one {v : Value} (h : v.oneCell' = true) : v.cells = #[v] := by
  cases v <;> first | rfl | (simp [Value.oneCell'] at h)
theorem noTuple_of_one {v : Value} (h : v.oneCell' = true) : noTuple v = true := by
  cases v <;> first | rfl | (simp [Value.oneCell'] at h)
end Go.Abs
end

section
set_option linter.unusedSimpArgs false
set_option linter.unusedVariables false
set_option maxRecDepth 100000
set_option maxHeartbeats 2000000
namespace Go.Proofs.Ytnpmidgikbbnbaa.A
open Go Go.Abs Go.RowKit

theorem tot_le {b : Nat} : ∀ {ll : List (List Int)}, (∀ r ∈ ll, r.length ≤ b) → tot ll ≤ ll.length * b
  | [], _ => by simp [tot]
  | r :: ll, h => by
    have h1 := h r (List.mem_cons_self)
    have h2 := tot_le (ll := ll) fun q hq => h q (List.mem_cons_of_mem _ hq)
    have e : tot (r :: ll) = r.length + tot ll := by simp [tot]
    rw [e, List.length_cons, Nat.succ_mul]
    omega
theorem sqL_bound (y : List Int) : (sqL y).length ≤ 14 ∧ tot (sqL y) ≤ 196 ∧ ∀ r ∈ sqL y, r.length ≤ 14 := by
  obtain ⟨h1, _, h2⟩ := sqL_size y
  refine ⟨h1, ?_, h2⟩
  have := tot_le h2
  omega

end Go.Proofs.Ytnpmidgikbbnbaa.A
end

section
set_option linter.unusedSimpArgs false
set_option linter.unusedVariables false
namespace Go.Abs

theorem compact_len (z : List Int) (hz : z.Pairwise (fun x y => x ≤ y)) : (Go.Lib.compact z).length = z.length ↔ z.Nodup := by
  have e : (Go.Lib.compact z).length = ((List.range z.length).filter (Go.Lib.keeps z.toArray)).length := by
    unfold Go.Lib.compact Go.Lib.compactUpTo
    rw [List.length_map]
  have e2 : (Go.Lib.compact z).length = z.length ↔ ∀ j ∈ List.range z.length, Go.Lib.keeps z.toArray j = true := by
    rw [e]
    have := List.length_filter_eq_length_iff (p := Go.Lib.keeps z.toArray) (l := List.range z.length)
    rw [List.length_range] at this
    exact this
  rw [e2]
  have kp : ∀ j (h : j + 1 < z.length), Go.Lib.keeps z.toArray (j + 1) = true ↔ z[j + 1] ≠ z[j] := by
    intro j h
    unfold Go.Lib.keeps
    have h1 : z.toArray[j + 1]! = z[j + 1] := by rw [getElem!_pos _ _ (by simpa using h)]; simp
    have h2 : z.toArray[j]! = z[j] := by rw [getElem!_pos _ _ (by simp; omega)]; simp
    simp only [Nat.add_sub_cancel, h1, h2]
    simp
  constructor
  · intro h
    have hlt : z.Pairwise (fun x y => x < y) := by
      rw [List.pairwise_iff_getElem] at hz ⊢
      intro i j hi hj hij
      have h1 := (kp i (by omega)).1 (h (i + 1) (by simp; omega))
      have h2 := hz i (i + 1) hi (by omega) (by omega)
      by_cases e : i + 1 = j
      · subst e; omega
      · have h3 := hz (i + 1) j (by omega) hj (by omega)
        omega
    exact hlt.imp (by intro x y h; omega)
  · intro h j hj
    have hj' : j < z.length := by simpa using hj
    cases j with
    | zero => simp [Go.Lib.keeps]
    | succ j =>
      rw [kp j hj']
      intro e
      have := (List.getElem_inj h).1 e
      omega
theorem compact_sorted (y : List Int) : (((Go.Lib.compact (sortedL y)).length : Int) == (y.length : Int)) = decide y.Nodup := by
  rw [Bool.eq_iff_iff, beq_iff_eq, decide_eq_true_iff]
  have h := compact_len (sortedL y) (sortedL_sorted y)
  rw [sortedL_length, (sortedL_perm y).nodup_iff] at h
  rw [← h]
  omega
theorem contains_sorted (y : List Int) (x : Int) : (sortedL y).contains x = y.contains x := by
  rw [Bool.eq_iff_iff, List.contains_iff_mem, List.contains_iff_mem]
  exact (sortedL_perm y).mem_iff
/-- What IsStepSequence answers. -/
def sqnC (ok : Bool) : Int := if ok = true then 0 else 2
end Go.Abs
end

section
set_option linter.unusedSimpArgs false
set_option linter.unusedVariables false
namespace Go.Abs

/-- Pairs of numbers below m as numbers. -/
def ixN (m a b : Nat) : Int := ((a * m + b : Nat) : Int)
theorem ix_inj {m a b c d : Nat} (hb : b < m) (hd : d < m) (h : ixN m a b = ixN m c d) : a = c ∧ b = d := by
  have h0 : a * m + b = c * m + d := by unfold ixN at h; omega
  have h1 : (a * m + b) / m = (c * m + d) / m := by rw [h0]
  rw [Nat.mul_comm a, Nat.mul_comm c, Nat.mul_add_div (by omega), Nat.mul_add_div (by omega), Nat.div_eq_of_lt hb, Nat.div_eq_of_lt hd] at h1
  have e : a = c := by omega
  subst e
  exact ⟨rfl, by omega⟩
theorem ix_lt {m a b : Nat} (ha : a < m) (hb : b < m) : 0 ≤ ixN m a b ∧ ixN m a b < ((m * m : Nat) : Int) := by
  have h : a * m + b < m * m := by
    have h1 : (a + 1) * m ≤ m * m := Nat.mul_le_mul_right m ha
    rw [Nat.succ_mul] at h1
    omega
  unfold ixN
  omega
/-- How often pairs are among others. -/
def cntMx (m : Nat) (I : List Int) : List (List Int) := (List.range m).map fun a => (List.range m).map fun b => ((I.count (ixN m a b) : Nat) : Int)
theorem cntMx_sq (m : Nat) (I : List Int) : SqM m (cntMx m I) := by
  refine ⟨by simp [cntMx], fun j hj => ?_⟩
  unfold cntMx
  rw [List.getD_eq_getElem?_getD, List.getElem?_map, List.getElem?_range hj]
  simp
theorem cntMx_nil (m : Nat) : cntMx m [] = zeroM m := by
  unfold cntMx zeroM
  refine List.eq_replicate_iff.2 ⟨by simp, fun r hr => ?_⟩
  obtain ⟨a, _, rfl⟩ := List.mem_map.1 hr
  exact List.eq_replicate_iff.2 ⟨by simp, by intro b hb; obtain ⟨c, _, rfl⟩ := List.mem_map.1 hb; rfl⟩
theorem cntMx_row (m : Nat) (I : List Int) (a : Nat) (ha : a < m) : (cntMx m I).getD a [] = (List.range m).map fun b => ((I.count (ixN m a b) : Nat) : Int) := by
  unfold cntMx
  rw [List.getD_eq_getElem?_getD, List.getElem?_map, List.getElem?_range ha]
  rfl
theorem cntMx_at (m : Nat) (I : List Int) (a b : Nat) (ha : a < m) (hb : b < m) : ((cntMx m I).getD a []).getD b 0 = ((I.count (ixN m a b) : Nat) : Int) := by
  rw [cntMx_row m I a ha, List.getD_eq_getElem?_getD, List.getElem?_map, List.getElem?_range hb]
  rfl
theorem cntMx_inc (m : Nat) (I : List Int) (x y : Nat) (hx : x < m) (hy : y < m) (hI : I.length ≤ 1000000) : incM (cntMx m I) x y = cntMx m (I ++ [ixN m x y]) := by
  have hsq := cntMx_sq m I
  unfold incM
  rw [Int.toNat_natCast]
  apply List.ext_getElem?
  intro a
  rw [List.getElem?_set, hsq.1]
  by_cases ha : a < m
  · have e1 : (cntMx m (I ++ [ixN m x y]))[a]? = some ((List.range m).map fun b => (((I ++ [ixN m x y]).count (ixN m a b) : Nat) : Int)) := by
      unfold cntMx; rw [List.getElem?_map, List.getElem?_range ha]; rfl
    have e2 : (cntMx m I)[a]? = some ((List.range m).map fun b => ((I.count (ixN m a b) : Nat) : Int)) := by
      unfold cntMx; rw [List.getElem?_map, List.getElem?_range ha]; rfl
    rw [e1]
    by_cases e : x = a
    · subst e
      rw [if_pos rfl, if_pos hx, cntMx_row m I x hx]
      congr 1
      unfold incR
      rw [Int.toNat_natCast]
      apply List.ext_getElem?
      intro b
      rw [List.getElem?_set, List.length_map, List.length_range, List.getElem?_map, List.getElem?_map]
      by_cases hb : b < m
      · rw [List.getElem?_range hb]
        simp only [Option.map_some]
        rw [List.count_append, List.count_singleton]
        by_cases e3 : y = b
        · subst e3
          rw [if_pos rfl, if_pos hy, List.getD_eq_getElem?_getD, List.getElem?_map, List.getElem?_range hy]
          simp only [Option.map_some, Option.getD_some, beq_self_eq_true, if_true]
          have hc := List.count_le_length (a := ixN m x y) (l := I)
          have w : IntKind.i64.wrap (((I.count (ixN m x y) : Nat) : Int) + 1) = ((I.count (ixN m x y) : Nat) : Int) + 1 := w64 (by omega)
          rw [w]; congr 1
        · rw [if_neg e3]
          have : (ixN m x y == ixN m x b) = false := by
            rw [beq_eq_false_iff_ne]; intro h; exact e3 (ix_inj hy hb h).2
          rw [this]; simp
      · rw [if_neg (by omega), List.getElem?_eq_none (by simpa using hb)]; rfl
    · rw [if_neg e, e2]
      congr 1
      apply List.map_congr_left
      intro b hb
      have hb' : b < m := by simpa using hb
      rw [List.count_append, List.count_singleton]
      have : (ixN m x y == ixN m a b) = false := by
        rw [beq_eq_false_iff_ne]; intro h; exact e (ix_inj hy hb' h).1
      rw [this]; simp
  · rw [if_neg (by omega), List.getElem?_eq_none (by rw [hsq.1]; omega), List.getElem?_eq_none (by rw [(cntMx_sq m _).1]; omega)]

/-- All pairs of different numbers. -/
def offD (m : Nat) : List Int := (List.range m).flatMap fun a => ((List.range m).filter fun b => decide (b ≠ a)).map fun b => ixN m a b
theorem offD_length : ∀ m, m < 15 → (offD m).length = m * (m - 1) := by decide +kernel
theorem offD_mem {m a b : Nat} (ha : a < m) (hb : b < m) (h : a ≠ b) : ixN m a b ∈ offD m := by
  unfold offD
  rw [List.mem_flatMap]
  exact ⟨a, by simpa using ha, List.mem_map.2 ⟨b, List.mem_filter.2 ⟨by simpa using hb, by simpa using fun e => h e.symm⟩, rfl⟩⟩
theorem bal_nodup {m : Nat} (hm : m < 15) {I : List Int} (hl : I.length = m * (m - 1)) (hI : ∀ x ∈ I, ∃ a b, a < m ∧ b < m ∧ a ≠ b ∧ x = ixN m a b) : balB (cntMx m I) = decide I.Nodup := by
  have hsq := cntMx_sq m I
  by_cases h : I.Nodup
  · rw [decide_eq_true h]
    have hp : I.Perm (offD m) := perm_of_nodup I (offD m) h (fun x hx => by obtain ⟨a, b, h1, h2, h3, rfl⟩ := hI x hx; exact offD_mem h1 h2 h3) (by rw [offD_length m hm, hl]; exact Nat.le_refl _)
    refine balB_good fun i hi j hj => ?_
    rw [hsq.1] at hi
    rw [hsq.2 i hi] at hj
    unfold balAt
    by_cases e : i = j
    · rw [decide_eq_true e]; rfl
    · rw [decide_eq_false e, Bool.false_or, cntMx_at m I i j hi hj, h.count, if_pos (hp.symm.subset (offD_mem hi hj e))]
      rfl
  · rw [decide_eq_false h, Bool.eq_false_iff]
    intro hb
    refine h (List.nodup_iff_count.2 fun x => ?_)
    by_cases hx : x ∈ I
    · obtain ⟨a, b, h1, h2, h3, rfl⟩ := hI x hx
      have hb2 : balAt (cntMx m I) a b = true := by
        by_cases e : balAt (cntMx m I) a b = true
        · exact e
        · rw [balB_bad (by rw [hsq.1]; exact h1) (by rw [hsq.2 a h1]; exact h2) (by simpa using e)] at hb
          cases hb
      unfold balAt at hb2
      rw [decide_eq_false h3, Bool.false_or, cntMx_at m I a b h1 h2, beq_iff_eq] at hb2
      omega
    · rw [List.count_eq_zero_of_not_mem hx]; omega

/-! ### Neighbours -/
def nbE (m : Nat) (r : List Int) (k : Nat) : Int := ixN m (r.getD k 0).toNat (r.getD (k + 1) 0).toNat
def nbR (m : Nat) (r : List Int) (c : Nat) : List Int := (List.range c).map (nbE m r)
/-- The neighbours of the first i rows, and the first c of the next one. -/
def nbP (m : Nat) (ll : List (List Int)) (i c : Nat) : List Int := ((List.range i).flatMap fun i => nbR m (ll.getD i []) (m - 1)) ++ nbR m (ll.getD i []) c
theorem nbP_succ (m : Nat) (ll : List (List Int)) (i c : Nat) : nbP m ll i (c + 1) = nbP m ll i c ++ [nbE m (ll.getD i []) c] := by
  unfold nbP nbR
  rw [List.range_succ, List.map_append, List.append_assoc]; rfl
theorem nbP_next (m : Nat) (ll : List (List Int)) (i : Nat) : nbP m ll i (m - 1) = nbP m ll (i + 1) 0 := by
  unfold nbP
  rw [List.range_succ, List.flatMap_append]
  simp [nbR]
theorem nbP_zero (m : Nat) (ll : List (List Int)) : nbP m ll 0 0 = [] := rfl
theorem nbP_length (m : Nat) (ll : List (List Int)) (i c : Nat) : (nbP m ll i c).length = i * (m - 1) + c := by
  unfold nbP
  rw [List.length_append]
  have h1 : ∀ r c, (nbR m r c).length = c := fun r c => by simp [nbR]
  rw [h1]
  congr 1
  induction i with
  | zero => simp
  | succ i ih => rw [List.range_succ, List.flatMap_append, List.length_append, ih, Nat.succ_mul]; simp [h1]
theorem getD_nodup {r : List Int} (h : r.Nodup) {i j : Nat} (hi : i < r.length) (hj : j < r.length) (e : r.getD i 0 = r.getD j 0) : i = j := by
  rw [List.getD_eq_getElem?_getD, List.getD_eq_getElem?_getD, List.getElem?_eq_getElem hi, List.getElem?_eq_getElem hj] at e
  simp only [Option.getD_some] at e
  exact (List.getElem_inj h).1 e
def nbA (m : Nat) (ll : List (List Int)) : List Int := nbP m ll m 0
theorem nbA_mem {m : Nat} {ll : List (List Int)} (hin : ∀ i, i < m → (ll.getD i []).length = m ∧ ∀ j, j < m → 0 ≤ (ll.getD i []).getD j 0 ∧ (ll.getD i []).getD j 0 < m) (hlat : latB m ll = true) {x : Int} (hx : x ∈ nbA m ll) : ∃ a b, a < m ∧ b < m ∧ a ≠ b ∧ x = ixN m a b := by
  unfold nbA nbP at hx
  have e0 : nbR m (ll.getD m []) 0 = [] := rfl
  rw [e0, List.append_nil, List.mem_flatMap] at hx
  obtain ⟨i, hi, hx⟩ := hx
  have hi' : i < m := by simpa using hi
  unfold nbR at hx
  obtain ⟨k, hk, rfl⟩ := List.mem_map.1 hx
  have hk' : k < m - 1 := by simpa using hk
  obtain ⟨hl, hr⟩ := hin i hi'
  have h1 := hr k (by omega)
  have h2 := hr (k + 1) (by omega)
  refine ⟨_, _, ?_, ?_, ?_, rfl⟩
  · omega
  · omega
  · intro e
    have ho : ordB m (ll.getD i []) = true := by
      unfold latB at hlat
      have := List.all_eq_true.1 hlat i hi
      unfold latAt at this
      exact (Bool.and_eq_true_iff.1 this).1
    have hnd := ((ordB_iff m _).1 ho).2.2
    have e2 : (ll.getD i []).getD k 0 = (ll.getD i []).getD (k + 1) 0 := by omega
    have := getD_nodup hnd (show k < _ by omega) (show k + 1 < _ by omega) e2
    omega
theorem nbA_length (m : Nat) (ll : List (List Int)) : (nbA m ll).length = m * (m - 1) := by
  unfold nbA; rw [nbP_length, Nat.add_zero]
/-- What IsRowComplete answers. -/
def ircC (n : Int) (ll : List (List Int)) : Int := if haveB n ll = true then (if latB n.toNat ll = true then 0 else 4) else 2
def ircB (n : Int) (ll : List (List Int)) : Bool := haveB n ll && latB n.toNat ll && decide (nbA n.toNat ll).Nodup
theorem nbP_pre (m : Nat) (ll : List (List Int)) (i c : Nat) (hi : i < m) (hc : c < m - 1) : ∃ L, nbA m ll = nbP m ll i (c + 1) ++ L := by
  have h1 : ∀ d, ∃ L, nbP m ll i (c + 1 + d) = nbP m ll i (c + 1) ++ L := by
    intro d
    induction d with
    | zero => exact ⟨[], by simp⟩
    | succ d ih =>
      obtain ⟨L, hL⟩ := ih
      exact ⟨L ++ [nbE m (ll.getD i []) (c + 1 + d)], by rw [← Nat.add_assoc, nbP_succ, hL, List.append_assoc]⟩
  have h2 : ∀ d, ∃ L, nbP m ll (i + 1 + d) 0 = nbP m ll (i + 1) 0 ++ L := by
    intro d
    induction d with
    | zero => exact ⟨[], by simp⟩
    | succ d ih =>
      obtain ⟨L, hL⟩ := ih
      refine ⟨L ++ nbR m (ll.getD (i + 1 + d) []) (m - 1), ?_⟩
      rw [← Nat.add_assoc, ← nbP_next]
      have : nbP m ll (i + 1 + d) (m - 1) = nbP m ll (i + 1 + d) 0 ++ nbR m (ll.getD (i + 1 + d) []) (m - 1) := by
        unfold nbP; simp [nbR]
      rw [this, hL, List.append_assoc]
  obtain ⟨L1, hL1⟩ := h1 (m - 1 - (c + 1))
  obtain ⟨L2, hL2⟩ := h2 (m - (i + 1))
  rw [show c + 1 + (m - 1 - (c + 1)) = m - 1 by omega, nbP_next] at hL1
  rw [show i + 1 + (m - (i + 1)) = m by omega] at hL2
  exact ⟨L1 ++ L2, by unfold nbA; rw [hL2, hL1, List.append_assoc]⟩
theorem nb_bad {m : Nat} {ll : List (List Int)} {i c : Nat} (hi : i < m) (hc : c < m - 1) (h : (nbP m ll i c).contains (nbE m (ll.getD i []) c) = true) : decide (nbA m ll).Nodup = false := by
  obtain ⟨L, hL⟩ := nbP_pre m ll i c hi hc
  rw [decide_eq_false_iff_not, hL, nbP_succ]
  intro hn
  have h1 := (List.nodup_append.1 hn).1
  exact (nodup_snoc.1 h1).2 (List.contains_iff_mem.1 h)
end Go.Abs
end

section
set_option linter.unusedSimpArgs false
set_option linter.unusedVariables false
namespace Go.Abs

def eachAt (p : Int → Bool) (M : List (List Int)) (i j : Nat) : Bool := decide (i = j) || p ((M.getD i []).getD j 0)
def eachB (p : Int → Bool) (M : List (List Int)) : Bool := (List.range M.length).all fun i => (List.range (M.getD i []).length).all fun j => eachAt p M i j
theorem eachB_bad {p : Int → Bool} {M : List (List Int)} {i j : Nat} (hi : i < M.length) (hj : j < (M.getD i []).length) (h : eachAt p M i j = false) : eachB p M = false := by
  unfold eachB
  exact all_false_of hi (all_false_of hj h)
theorem eachB_good {p : Int → Bool} {M : List (List Int)} (h : ∀ i, i < M.length → ∀ j, j < (M.getD i []).length → eachAt p M i j = true) : eachB p M = true := by
  unfold eachB
  exact all_true_of fun i hi => all_true_of fun j hj => h i hi j hj
theorem eachB_at {p : Int → Bool} {M : List (List Int)} (h : eachB p M = true) {i j : Nat} (hi : i < M.length) (hj : j < (M.getD i []).length) : eachAt p M i j = true := by
  unfold eachB at h
  rw [List.all_eq_true] at h
  have h2 := h i (by simpa using hi)
  rw [List.all_eq_true] at h2
  exact h2 j (by simpa using hj)
theorem eachB_imp {p q : Int → Bool} (h : ∀ x, p x = true → q x = true) {M : List (List Int)} (hM : eachB p M = true) : eachB q M = true :=
  eachB_good fun i hi j hj => by
    have h1 := eachB_at hM hi hj
    unfold eachAt at h1 ⊢
    rw [Bool.or_eq_true] at h1 ⊢
    exact h1.imp id (h _)

theorem getD_mem2 {α : Type} (y : List (α × α)) (i : Nat) (hi : i < y.length) {d : α × α} : y.getD i d ∈ y := by
  rw [List.getD_eq_getElem?_getD, List.getElem?_eq_getElem hi]; exact List.getElem_mem _
/-! ### Tables -/
def qd (l : List Int) (t j : Nat) : Nat := (l.getD (4 * t + j) 0).toNat
def evW (n : Nat) (q : Nat → Nat) (ws : List (Nat × Nat)) : List Int := ws.flatMap fun w => [ixN n (q w.1) (q w.2), ixN n (q w.2) (q w.1)]
def evR (n : Nat) (ws : List (Nat × Nat)) (l : List Int) (c : Nat) : List Int := (List.range c).flatMap fun t => evW n (qd l t) ws
def evA (n : Nat) (ws : List (Nat × Nat)) (R : List (List Int)) (k : Nat) : List Int := (List.range k).flatMap fun i => evR n ws (R.getD i []) ((R.getD i []).length / 4)
def tabM (n : Nat) (ws : List (Nat × Nat)) (R : List (List Int)) : List (List Int) := cntMx n (evA n ws R R.length)
theorem evW_snoc (n : Nat) (q : Nat → Nat) (ws : List (Nat × Nat)) (w : Nat × Nat) : evW n q (ws ++ [w]) = evW n q ws ++ [ixN n (q w.1) (q w.2)] ++ [ixN n (q w.2) (q w.1)] := by simp [evW]
theorem evR_succ (n : Nat) (ws : List (Nat × Nat)) (l : List Int) (c : Nat) : evR n ws l (c + 1) = evR n ws l c ++ evW n (qd l c) ws := by simp [evR, List.range_succ]
theorem evA_succ (n : Nat) (ws : List (Nat × Nat)) (R : List (List Int)) (k : Nat) : evA n ws R (k + 1) = evA n ws R k ++ evR n ws (R.getD k []) ((R.getD k []).length / 4) := by simp [evA, List.range_succ]
theorem evW_length (n : Nat) (q : Nat → Nat) : ∀ (ws : List (Nat × Nat)), (evW n q ws).length = 2 * ws.length
  | [] => rfl
  | w :: ws => by
    have e : evW n q (w :: ws) = [ixN n (q w.1) (q w.2), ixN n (q w.2) (q w.1)] ++ evW n q ws := by simp [evW]
    rw [e, List.length_append, evW_length n q ws, List.length_cons, List.length_cons]
    simp
    omega
theorem evR_length (n : Nat) (ws : List (Nat × Nat)) (l : List Int) : ∀ c, (evR n ws l c).length = c * (2 * ws.length)
  | 0 => by simp [evR]
  | c + 1 => by rw [evR_succ, List.length_append, evR_length n ws l c, evW_length, Nat.add_mul c 1, Nat.one_mul]
theorem evA_length {n : Nat} {ws : List (Nat × Nat)} {R : List (List Int)} (hR : ∀ i, i < R.length → (R.getD i []).length ≤ 16) : ∀ k, k ≤ R.length → (evA n ws R k).length ≤ k * (4 * (2 * ws.length))
  | 0, _ => by simp [evA]
  | k + 1, h => by
    rw [evA_succ, List.length_append, evR_length]
    have h1 := evA_length (n := n) (ws := ws) hR k (by omega)
    have h2 := hR k (by omega)
    have h3 : (R.getD k []).length / 4 * (2 * ws.length) ≤ 4 * (2 * ws.length) := Nat.mul_le_mul_right _ (by omega)
    rw [Nat.add_mul k 1, Nat.one_mul]
    omega
/-- The other side's order. -/
def svW (n : Nat) (l : List Int) (k : Nat) (ws : List Nat) : List Int := ws.map fun w => ixN n (l.getD k 0).toNat (l.getD (k / 4 * 4 + (k % 4 ^^^ w)) 0).toNat
def svR (n : Nat) (ws : List Nat) (l : List Int) (c : Nat) : List Int := (List.range c).flatMap fun k => svW n l k ws
def svA (n : Nat) (ws : List Nat) (R : List (List Int)) (k : Nat) : List Int := (List.range k).flatMap fun i => svR n ws (R.getD i []) (R.getD i []).length
theorem svW_snoc (n : Nat) (l : List Int) (k : Nat) (ws : List Nat) (w : Nat) : svW n l k (ws ++ [w]) = svW n l k ws ++ [ixN n (l.getD k 0).toNat (l.getD (k / 4 * 4 + (k % 4 ^^^ w)) 0).toNat] := by simp [svW]
theorem svR_succ (n : Nat) (ws : List Nat) (l : List Int) (c : Nat) : svR n ws l (c + 1) = svR n ws l c ++ svW n l c ws := by simp [svR, List.range_succ]
theorem svA_succ (n : Nat) (ws : List Nat) (R : List (List Int)) (k : Nat) : svA n ws R (k + 1) = svA n ws R k ++ svR n ws (R.getD k []) (R.getD k []).length := by simp [svA, List.range_succ]
theorem svW_length (n : Nat) (l : List Int) (k : Nat) (ws : List Nat) : (svW n l k ws).length = ws.length := by simp [svW]
theorem svR_length (n : Nat) (ws : List Nat) (l : List Int) : ∀ c, (svR n ws l c).length = c * ws.length
  | 0 => by simp [svR]
  | c + 1 => by rw [svR_succ, List.length_append, svR_length n ws l c, svW_length, Nat.add_mul c 1, Nat.one_mul]
theorem svA_length {n : Nat} {ws : List Nat} {R : List (List Int)} (hR : ∀ i, i < R.length → (R.getD i []).length ≤ 16) : ∀ k, k ≤ R.length → (svA n ws R k).length ≤ k * (16 * ws.length)
  | 0, _ => by simp [svA]
  | k + 1, h => by
    rw [svA_succ, List.length_append, svR_length]
    have h1 := svA_length (n := n) (ws := ws) hR k (by omega)
    have h2 := hR k (by omega)
    have h3 : (R.getD k []).length * ws.length ≤ 16 * ws.length := Nat.mul_le_mul_right _ (by omega)
    rw [Nat.add_mul k 1, Nat.one_mul]
    omega
def wayOk (us : List Nat) (ws : List (Nat × Nat)) : Prop := ([0, 1, 2, 3].flatMap fun j => us.map fun w => (j, j ^^^ w)).Perm (ws.flatMap fun w => [(w.1, w.2), (w.2, w.1)])
theorem way1 : wayOk [1] [(0, 1), (2, 3)] := by unfold wayOk; decide
theorem way23 : wayOk [2, 3] [(0, 2), (1, 3), (0, 3), (1, 2)] := by unfold wayOk; decide
theorem way2 : wayOk [2] [(0, 2), (1, 3)] := by unfold wayOk; decide
theorem way3 : wayOk [3] [(0, 3), (1, 2)] := by unfold wayOk; decide
theorem evW_pairs (n : Nat) (q : Nat → Nat) (ws : List (Nat × Nat)) : evW n q ws = (ws.flatMap fun w => [(w.1, w.2), (w.2, w.1)]).map fun p => ixN n (q p.1) (q p.2) := by
  unfold evW
  rw [List.map_flatMap]
  rfl
theorem svW_block (n : Nat) (l : List Int) (t : Nat) (us : List Nat) : svW n l (4 * t) us ++ svW n l (4 * t + 1) us ++ svW n l (4 * t + 2) us ++ svW n l (4 * t + 3) us = ([0, 1, 2, 3].flatMap fun j => us.map fun w => (j, j ^^^ w)).map fun p => ixN n (qd l t p.1) (qd l t p.2) := by
  have h : ∀ j, j < 4 → svW n l (4 * t + j) us = (us.map fun w => (j, j ^^^ w)).map fun p => ixN n (qd l t p.1) (qd l t p.2) := by
    intro j hj
    unfold svW
    rw [List.map_map]
    apply List.map_congr_left
    intro w _
    show ixN n (l.getD (4 * t + j) 0).toNat (l.getD ((4 * t + j) / 4 * 4 + ((4 * t + j) % 4 ^^^ w)) 0).toNat = ixN n (l.getD (4 * t + j) 0).toNat (l.getD (4 * t + (j ^^^ w)) 0).toNat
    rw [show (4 * t + j) / 4 * 4 = 4 * t by omega, show (4 * t + j) % 4 = j by omega]
  have h0 := h 0 (by omega)
  rw [Nat.add_zero] at h0
  rw [h0, h 1 (by omega), h 2 (by omega), h 3 (by omega)]
  simp
theorem svR_perm {n : Nat} {us : List Nat} {ws : List (Nat × Nat)} (hw : wayOk us ws) (l : List Int) : ∀ c, (svR n us l (4 * c)).Perm (evR n ws l c)
  | 0 => by simp [svR, evR]
  | c + 1 => by
    rw [show 4 * (c + 1) = 4 * c + 1 + 1 + 1 + 1 by omega, svR_succ, svR_succ, svR_succ, svR_succ, evR_succ, evW_pairs]
    have e := svW_block n l c us
    rw [show svR n us l (4 * c) ++ svW n l (4 * c) us ++ svW n l (4 * c + 1) us ++ svW n l (4 * c + 1 + 1) us ++ svW n l (4 * c + 1 + 1 + 1) us = svR n us l (4 * c) ++ (svW n l (4 * c) us ++ svW n l (4 * c + 1) us ++ svW n l (4 * c + 2) us ++ svW n l (4 * c + 3) us) by simp, e]
    exact (svR_perm hw l c).append (hw.map _)
theorem svA_perm {n : Nat} {us : List Nat} {ws : List (Nat × Nat)} (hw : wayOk us ws) {R : List (List Int)} (hR : ∀ i, i < R.length → (R.getD i []).length % 4 = 0) : ∀ k, k ≤ R.length → (svA n us R k).Perm (evA n ws R k)
  | 0, _ => by simp [svA, evA]
  | k + 1, h => by
    rw [svA_succ, evA_succ]
    have h1 := hR k (by omega)
    have h2 := svR_perm (n := n) hw (R.getD k []) ((R.getD k []).length / 4)
    rw [show 4 * ((R.getD k []).length / 4) = (R.getD k []).length by omega] at h2
    exact (svA_perm hw hR k (by omega)).append h2
theorem cntMx_perm {m : Nat} {I J : List Int} (h : I.Perm J) : cntMx m I = cntMx m J := by
  unfold cntMx
  congr 1; funext a; congr 1; funext b
  rw [h.count_eq]
theorem svA_tab {n : Nat} {us : List Nat} {ws : List (Nat × Nat)} (hw : wayOk us ws) {R : List (List Int)} (hR : ∀ i, i < R.length → (R.getD i []).length % 4 = 0) : cntMx n (svA n us R R.length) = tabM n ws R :=
  cntMx_perm (svA_perm hw hR _ (Nat.le_refl _))
theorem tabM_sq (n : Nat) (ws : List (Nat × Nat)) (R : List (List Int)) : SqM n (tabM n ws R) := cntMx_sq _ _

/-! ### Evenings made from a base round -/
def mdX (m i : Nat) (x : Int) : Int := if x < m then (x + i) % m else x
def mdL (m i : Nat) (y : List Int) : List Int := y.map (mdX m i)
def madeL (m : Nat) (y : List Int) (k : Nat) : List (List Int) := (List.range k).map fun i => mdL m i y
theorem mdL_length (m i : Nat) (y : List Int) : (mdL m i y).length = y.length := by simp [mdL]
theorem mdL_snoc (m i : Nat) (y : List Int) (k : Nat) (hk : k < y.length) : mdL m i (y.take (k + 1)) = mdL m i (y.take k) ++ [mdX m i (y.getD k 0)] := by
  rw [take_snoc y 0 k hk]; simp [mdL]
theorem madeL_length (m : Nat) (y : List Int) (k : Nat) : (madeL m y k).length = k := by simp [madeL]
theorem madeL_getD (m : Nat) (y : List Int) (k i : Nat) (h : i < k) : (madeL m y k).getD i [] = mdL m i y := by
  unfold madeL
  rw [List.getD_eq_getElem?_getD, List.getElem?_map, List.getElem?_range h]; rfl
theorem madeL_succ (m : Nat) (y : List Int) (k : Nat) : madeL m y (k + 1) = madeL m y k ++ [mdL m k y] := by simp [madeL, List.range_succ]
theorem mdX_range {n m i : Nat} (hm : 1 ≤ m ∧ m ≤ n) {x : Int} (hx : 0 ≤ x ∧ x < n) : 0 ≤ mdX m i x ∧ mdX m i x < n := by
  unfold mdX
  split
  · have h1 := Int.emod_nonneg (x + i) (show (m : Int) ≠ 0 by omega)
    have h2 := Int.emod_lt_of_pos (x + i) (show (0 : Int) < m by omega)
    omega
  · omega
theorem mdX_inj {m i : Nat} (hm : 1 ≤ m) {x z : Int} (hx : 0 ≤ x) (hz : 0 ≤ z) (h : mdX m i x = mdX m i z) : x = z := by
  have r : ∀ w : Int, 0 ≤ (w + i) % (m : Int) ∧ (w + i) % (m : Int) < m := fun w => ⟨Int.emod_nonneg _ (by omega), Int.emod_lt_of_pos _ (by omega)⟩
  unfold mdX at h
  by_cases hxm : x < m
  · by_cases hzm : z < m
    · rw [if_pos hxm, if_pos hzm] at h
      have d : ((m : Int)) ∣ (x + i) - (z + i) := Int.dvd_of_emod_eq_zero (by rw [Int.sub_emod, h, Int.sub_self]; simp)
      obtain ⟨c, hc⟩ := d
      have h1 : x - z = m * c := by omega
      have hc1 : c < 1 := by
        by_cases hh : 1 ≤ c
        · have := Int.mul_le_mul_of_nonneg_left hh (show (0 : Int) ≤ m by omega); omega
        · omega
      have hc2 : -1 < c := by
        by_cases hh : c ≤ -1
        · have := Int.mul_le_mul_of_nonneg_left hh (show (0 : Int) ≤ m by omega); omega
        · omega
      have hc0 : c = 0 := by omega
      rw [hc0] at h1
      omega
    · rw [if_pos hxm, if_neg hzm] at h
      have := r x; omega
  · by_cases hzm : z < m
    · rw [if_neg hxm, if_pos hzm] at h
      have := r z; omega
    · rw [if_neg hxm, if_neg hzm] at h; exact h
theorem mdL_mem {n m i : Nat} (hm : 1 ≤ m ∧ m ≤ n) {y : List Int} (hy : ∀ x ∈ y, 0 ≤ x ∧ x < (n : Int)) : ∀ x ∈ mdL m i y, 0 ≤ x ∧ x < (n : Int) := by
  intro x hx
  obtain ⟨z, hz, rfl⟩ := List.mem_map.1 hx
  exact mdX_range hm (hy z hz)
theorem getD_ne {l : List Int} (h : l.Nodup) {i j : Nat} (hi : i < l.length) (hj : j < l.length) (hij : i ≠ j) : l.getD i 0 ≠ l.getD j 0 := by
  rw [List.getD_eq_getElem?_getD, List.getD_eq_getElem?_getD, List.getElem?_eq_getElem hi, List.getElem?_eq_getElem hj]
  intro e
  exact hij ((List.getElem_inj h).1 e)
theorem mdL_nodup {n m i : Nat} (hm : 1 ≤ m) {y : List Int} (hy : ∀ x ∈ y, 0 ≤ x ∧ x < (n : Int)) (hn : y.Nodup) : (mdL m i y).Nodup := by
  unfold mdL
  unfold List.Nodup
  rw [List.pairwise_map]
  refine List.Pairwise.imp_of_mem ?_ hn
  intro a b ha hb hab e
  exact hab (mdX_inj hm (hy a ha).1 (hy b hb).1 e)
/-- Nobody meets himself. -/
theorem tabM_diag {n m : Nat} {ws : List (Nat × Nat)} (hws : ∀ w ∈ ws, w.1 < 4 ∧ w.2 < 4 ∧ w.1 ≠ w.2) (hm : 1 ≤ m ∧ m ≤ n) {y : List Int} (hy : ∀ x ∈ y, 0 ≤ x ∧ x < (n : Int)) (hnd : y.Nodup) {k x : Nat} (hx : x < n) :
    ((tabM n ws (madeL m y k)).getD x []).getD x 0 = 0 := by
  unfold tabM
  rw [cntMx_at _ _ _ _ hx hx]
  have h0 : ixN n x x ∉ evA n ws (madeL m y k) (madeL m y k).length := by
    intro h
    unfold evA at h
    obtain ⟨i, hi, h⟩ := List.mem_flatMap.1 h
    have hik : i < k := by have := List.mem_range.1 hi; rw [madeL_length] at this; exact this
    rw [madeL_getD m y k i hik, mdL_length] at h
    unfold evR at h
    obtain ⟨t, ht, h⟩ := List.mem_flatMap.1 h
    have ht2 := List.mem_range.1 ht
    unfold evW at h
    obtain ⟨w, hw, h⟩ := List.mem_flatMap.1 h
    obtain ⟨w1, w2, w3⟩ := hws w hw
    have hl := mdL_length m i y
    have hmem : ∀ j, j < 4 → 0 ≤ (mdL m i y).getD (4 * t + j) 0 ∧ (mdL m i y).getD (4 * t + j) 0 < (n : Int) := fun j hj => by
      refine mdL_mem (i := i) hm hy _ ?_
      rw [List.getD_eq_getElem?_getD, List.getElem?_eq_getElem (by omega)]; exact List.getElem_mem _
    have hlt : ∀ j, j < 4 → qd (mdL m i y) t j < n := fun j hj => by have := hmem j hj; unfold qd; omega
    have hne : qd (mdL m i y) t w.1 ≠ qd (mdL m i y) t w.2 := by
      intro e
      have h1 := getD_ne (mdL_nodup (i := i) hm.1 hy hnd) (i := 4 * t + w.1) (j := 4 * t + w.2) (by omega) (by omega) (by omega)
      have h2 := hmem w.1 w1
      have h3 := hmem w.2 w2
      unfold qd at e
      omega
    simp only [List.mem_cons, List.not_mem_nil, or_false] at h
    rcases h with h | h
    · obtain ⟨e1, e2⟩ := ix_inj hx (hlt _ w2) h
      exact hne (by omega)
    · obtain ⟨e1, e2⟩ := ix_inj hx (hlt _ w1) h
      exact hne (by omega)
  rw [List.count_eq_zero.2 h0]
  rfl
def wP : List (Nat × Nat) := [(0, 1), (2, 3)]
def wO : List (Nat × Nat) := [(0, 2), (1, 3), (0, 3), (1, 2)]
def w1L : List (Nat × Nat) := [(0, 2), (1, 3)]
def w2L : List (Nat × Nat) := [(0, 3), (1, 2)]
/-- Is it whist? -/
def formB (n : Nat) (R : List (List Int)) : Bool := decide (n % 4 ≤ 1) && decide (R.length = n - 1 + n % 4) && (List.range R.length).all fun i => decide ((R.getD i []).length = n - n % 4)
def whistB (n : Nat) (R : List (List Int)) : Bool := formB n R && (eachB (fun x => x == 1) (tabM n wP R) && eachB (fun x => x == 2) (tabM n wO R))
def mOf (n : Nat) : Nat := n - 1 + n % 4
def fitsB (n : Nat) (y : List Int) : Bool := eachB (fun x => decide (x ≤ 1)) (tabM n wP (madeL (mOf n) y (mOf n))) && eachB (fun x => decide (x ≤ 2)) (tabM n wO (madeL (mOf n) y (mOf n)))
theorem whist_fits {n : Nat} {y : List Int} (h : whistB n (madeL (mOf n) y (mOf n)) = true) : fitsB n y = true := by
  unfold whistB at h
  rw [Bool.and_eq_true, Bool.and_eq_true] at h
  unfold fitsB
  rw [eachB_imp (fun x hx => by have : x = 1 := by simpa using hx
                                simp [this]) h.2.1, eachB_imp (fun x hx => by have : x = 2 := by simpa using hx
                                                                              simp [this]) h.2.2]
  rfl
theorem fits_nil (n : Nat) : fitsB n [] = true := by
  have h : ∀ ws, tabM n ws (madeL (mOf n) [] (mOf n)) = zeroM n := by
    intro ws
    unfold tabM
    have e : evA n ws (madeL (mOf n) [] (mOf n)) (madeL (mOf n) [] (mOf n)).length = [] := by
      unfold evA
      rw [List.flatMap_eq_nil_iff]
      intro i hi
      have hik : i < mOf n := by have := List.mem_range.1 hi; rw [madeL_length] at this; exact this
      rw [madeL_getD _ _ _ i hik]
      simp [mdL, evR]
    rw [e, cntMx_nil]
  have z : ∀ p : Int → Bool, p 0 = true → eachB p (zeroM n) = true := fun p hp => eachB_good fun i hi j hj => by
    have hs := zeroM_sq n
    have hi2 : i < n := by rw [hs.1] at hi; exact hi
    have hj2 : j < n := by rw [hs.2 i hi2] at hj; exact hj
    unfold eachAt
    have e : ((zeroM n).getD i []).getD j 0 = 0 := by simp [zeroM, List.getD_eq_getElem?_getD, List.getElem?_replicate, hi2, hj2]
    rw [e, hp, Bool.or_true]
  unfold fitsB
  rw [h, h, z _ (by decide), z _ (by decide)]
  rfl
/-- The first base round. -/
def fbN (n : Nat) : Nat → List Int → Option (List Int)
  | 0, y => if whistB n (madeL (mOf n) y (mOf n)) = true then some y else none
  | f + 1, y => if y.length % 4 = 0 ∧ 0 < y.length ∧ fitsB n y = false then none else (seqL 0 n).findSome? fun x => if y.contains x = true then none else fbN n f (y ++ [x])
theorem fbN_mem {n : Nat} : ∀ (f : Nat) (y z : List Int), fbN n f y = some z → z.length = y.length + f
  | 0, y, z, h => by
    unfold fbN at h
    split at h
    · injection h with h; subst h; rfl
    · cases h
  | f + 1, y, z, h => by
    unfold fbN at h
    split at h
    · cases h
    · obtain ⟨x, _, hx⟩ := List.exists_of_findSome?_eq_some h
      split at hx
      · cases hx
      · have := fbN_mem f _ _ hx
        rw [List.length_append, List.length_singleton] at this
        omega
theorem findSome_take {α : Type} (g : Int → Option α) (n a : Nat) (ha : a < n) (hp : ∀ j, j < a → g (j : Int) = none) {z : α} (hz : g (a : Int) = some z) : (seqL 0 n).findSome? g = some z := by
  have e : seqL 0 n = seqL 0 a ++ seqL a (n - a) := by
    unfold seqL
    rw [show n = a + (n - a) by omega, List.range_add, List.map_append, List.map_map, show a + (n - a) - a = n - a by omega]
    congr 1
    apply List.map_congr_left
    intro i _
    show (0 : Int) + ((a + i : Nat) : Int) = (a : Int) + i
    omega
  rw [e, List.findSome?_append]
  have h1 : (seqL 0 a).findSome? g = none := by
    rw [List.findSome?_eq_none_iff]
    intro x hx
    obtain ⟨j, hj, rfl⟩ := List.mem_map.1 hx
    have := hp j (List.mem_range.1 hj)
    show g (0 + (j : Int)) = none
    rw [show (0 : Int) + j = j by omega]
    exact this
  rw [h1]
  obtain ⟨c, hc⟩ : ∃ c, n - a = c + 1 := ⟨n - a - 1, by omega⟩
  rw [hc]
  have e2 : seqL (a : Int) (c + 1) = (a : Int) :: seqL ((a : Int) + 1) c := by
    unfold seqL
    rw [List.range_succ_eq_map, List.map_cons, List.map_map]
    congr 1
    apply List.map_congr_left
    intro i _
    show (a : Int) + ((i + 1 : Nat) : Int) = a + 1 + (i : Int)
    omega
  rw [e2, List.findSome?_cons, hz]
  rfl
theorem findSome_none {α : Type} (g : Int → Option α) (n : Nat) (hp : ∀ j, j < n → g (j : Int) = none) : (seqL 0 n).findSome? g = none := by
  rw [List.findSome?_eq_none_iff]
  intro x hx
  obtain ⟨j, hj, rfl⟩ := List.mem_map.1 hx
  show g (0 + (j : Int)) = none
  rw [show (0 : Int) + j = j by omega]
  exact hp j (List.mem_range.1 hj)
def fbOk (n : Int) : Bool := decide (n = 4 ∨ n = 5 ∨ n = 8 ∨ n = 9)
def fbO (n : Int) : Option (List Int) := if fbOk n = true then fbN n.toNat (n.toNat - n.toNat % 4) [] else none
def fbR (n : Int) : List Int := (fbO n).getD []
def fbC (n : Int) : Int := if fbOk n = true then (if (fbO n).isSome = true then 0 else 4) else 2
theorem fbR_length (n : Int) : (fbR n).length ≤ 16 := by
  unfold fbR fbO
  split
  · rename_i h
    cases e : fbN n.toNat (n.toNat - n.toNat % 4) [] with
    | none => simp
    | some z =>
      have h1 := fbN_mem _ _ _ e
      have h2 : n = 4 ∨ n = 5 ∨ n = 8 ∨ n = 9 := of_decide_eq_true h
      simp at h1 ⊢
      omega
  · simp
end Go.Abs
end

section
set_option linter.unusedSimpArgs false
set_option linter.unusedVariables false
namespace Go.Abs
open Go Go.RowKit

theorem Fr2.sameR {k ty ty' lo hi : Nat} {H H' : AH} {v : Value} {ll : List (List Int)} (h : Fr2 k ty ty' lo hi H v ll) (hs : ∀ i r, lo ≤ i → i < hi → H.row i = some r → r.ty = ty ∨ r.ty = ty' → H'.row i = some r) : Fr2 k ty ty' lo hi H' v ll := by
  rcases h with h | ⟨i, vs, b, h1, h2, hv, hr, hl, g0, gn, gi, gm, hh⟩
  · exact .inl h
  · have mono : ∀ j, b 0 ≤ b j := fun j => by
      induction j with
      | zero => exact Nat.le_refl _
      | succ j ih => exact Nat.le_trans ih (gm j)
    have mono2 : ∀ d j, b j ≤ b (j + d) := fun d => by
      induction d with
      | zero => intro j; exact Nat.le_refl _
      | succ d ih => intro j; exact Nat.le_trans (ih j) (gm (j + d))
    refine .inr ⟨i, vs, b, h1, h2, hv, hs i _ h1 h2 hr (.inl rfl), hl, g0, gn, gi, gm, fun j hj => ?_⟩
    obtain ⟨x, m, hx, hf⟩ := hh j hj
    refine ⟨x, m, hx, hf.1, ?_⟩
    rcases hf.2 with h3 | ⟨q, q1, q2, q3, q4⟩
    · exact .inl h3
    · have a1 := mono j
      have a2 := mono2 (ll.length - (j + 1)) (j + 1)
      rw [show j + 1 + (ll.length - (j + 1)) = ll.length by omega] at a2
      exact .inr ⟨q, q1, q2, q3, hs q _ (by omega) (by omega) q4 (.inr rfl)⟩
theorem appE_fr2K {P : Program} {E : TI} {k ty ty' lo hi m : Nat} {H : AH} {v x : Value} {ll : List (List Int)} {l : List Int} {K : Value → AH → Prop} (h : Fr2 k ty ty' lo hi H v ll) (hx : Fr k ty' hi H.next H x m l) (hE : E.size = 1) (hb : E.bytes ≤ 32768) (hn : ll.length + 1 ≤ 4294967296) (hlo : lo ≤ hi) (hhi : hi ≤ H.next)
    (hK : ∀ v' H', H'.next = H.next + 1 → (∀ i, ¬(lo ≤ i ∧ i < hi) → i < H.next → H'.row i = H.row i) → (∀ j r, j < H.next → H.row j = some r → r.ty ≠ ty → H'.row j = some r) → Fr2 k ty ty' lo (H.next + 1) H' v' (ll ++ [l]) → K v' H') :
    runOut P H (appE E ty v [x] 1 H) K := by
  unfold appE
  rw [if_neg (by omega)]
  refine Holds.mp ?_
  rcases h with ⟨rfl, rfl⟩ | ⟨i, vs, b, h1, h2, rfl, hr, hvl, g0, gn, gi, gm, hj⟩ <;> rw [holds_def]
  · simp only [asSl_nil, runOut_need, runOut_val, hE]
    refine ⟨⟨by omega, hb⟩, hK _ _ rfl (fun i _ hi => by rw [AH.push_row, if_neg (by omega)]) (fun j r hj hr _ => by rw [AH.push_row, if_neg (by omega)]; exact hr) (.inr ⟨H.next, [x], fun j => if j = 0 then hi else H.next, by omega, by omega, rfl, by rw [AH.push_row, if_pos rfl], rfl, ?_, ?_, .inr ?_, fun j => ?_, fun j hj => ?_⟩)⟩
    · dsimp only; rw [if_pos rfl]; exact hlo
    · dsimp only [List.nil_append, List.length_singleton]; rw [if_neg (by omega)]; omega
    · dsimp only [List.nil_append, List.length_singleton]; rw [if_neg (by omega)]; omega
    · dsimp only; split
      · rw [if_neg (by omega)]; exact hhi
      · rw [if_neg (by omega)]; omega
    · simp only [List.nil_append, List.length_singleton] at hj
      have : j = 0 := by omega
      subst this
      refine ⟨x, m, rfl, ?_⟩
      dsimp only
      rw [if_pos rfl, if_neg (by omega)]
      exact hx.same fun z _ hz => by rw [AH.push_row, if_neg (by omega)]
  · simp only [asSl_some, hr, bindO_some, runOut_need, Nat.zero_add, hE, Nat.mul_one]
    refine ⟨⟨hn, hb, by omega, .inl rfl⟩, ?_⟩
    rw [if_neg (by omega)]
    simp only [runOut_need, runOut_val]
    refine ⟨by simp, hK _ _ rfl (fun j hj hj2 => ?_) (fun j r hj hr' hne => by rw [AH.push_row, if_neg (by rw [AH.drop_next]; omega), AH.drop_row, if_neg (by rintro rfl; rw [hr] at hr'; injection hr' with e; exact hne (by rw [← e]))]; exact hr') (.inr ⟨H.next, vs ++ [x], fun j => if j < ll.length then b j else if j = ll.length then hi else H.next, by omega, by omega, ?_, ?_, ?_, ?_, ?_, .inr ?_, fun j => ?_, fun j hjl => ?_⟩)⟩
    · rw [AH.push_row, if_neg (by rw [AH.drop_next]; omega), AH.drop_row, if_neg (by omega)]
    · rw [List.length_append]; rfl
    · rw [AH.push_row, AH.drop_next, if_pos rfl, seg_all _ _ hvl.symm]
    · rw [List.length_append, List.length_append, hvl]; rfl
    · dsimp only
      split
      · exact g0
      · split
        · exact hlo
        · omega
    · rw [List.length_append, List.length_singleton]
      dsimp only
      rw [if_neg (by omega), if_neg (by omega)]; omega
    · rw [List.length_append, List.length_singleton]
      dsimp only
      rw [if_neg (by omega), if_neg (by omega)]; omega
    · dsimp only
      by_cases c1 : j + 1 < ll.length
      · rw [if_pos (by omega), if_pos c1]; exact gm j
      · by_cases c2 : j + 1 = ll.length
        · rw [if_pos (by omega), if_neg c1, if_pos c2]
          have := mono_of_step gm (show j ≤ ll.length by omega); omega
        · by_cases c3 : j = ll.length
          · rw [if_neg (by omega), if_pos c3, if_neg c1, if_neg c2]; exact hhi
          · rw [if_neg (by omega), if_neg c3, if_neg c1, if_neg c2]; omega
    · rw [List.length_append, List.length_singleton] at hjl
      have old : ∀ z, lo ≤ z → z < H.next → ¬ z = i → ((H.drop i).push ⟨ty, true, seg vs 0 ll.length ++ [x]⟩).row z = H.row z := fun z _ z2 z3 => by
        rw [AH.push_row, if_neg (by rw [AH.drop_next]; omega), AH.drop_row, if_neg z3]
      by_cases c : j < ll.length
      · obtain ⟨y, q, hy, hf⟩ := hj j c
        refine ⟨y, q, by rw [List.getElem?_append_left (by omega), hy], ?_⟩
        have e1 : (ll ++ [l]).getD j [] = ll.getD j [] := by simp [List.getD_eq_getElem?_getD, List.getElem?_append_left c]
        rw [e1]
        have c1 := mono_of_step gm (Nat.zero_le j)
        have c2 := mono_of_step gm (show j + 1 ≤ ll.length by omega)
        have f1 : Fr k ty' (b j) (b (j + 1)) ((H.drop i).push ⟨ty, true, seg vs 0 ll.length ++ [x]⟩) y q (ll.getD j []) := hf.same fun z z1 z2 => old z (by omega) (by omega) (by omega)
        dsimp only
        rw [if_pos c]
        by_cases c3 : j + 1 < ll.length
        · rw [if_pos c3]; exact f1
        · rw [if_neg c3, if_pos (by omega)]; exact f1.wide (Nat.le_refl _) (by omega)
      · have c4 : j = ll.length := by omega
        subst c4
        refine ⟨x, m, by rw [← hvl, List.getElem?_append_right (Nat.le_refl _)]; simp, ?_⟩
        have e1 : (ll ++ [l]).getD ll.length [] = l := by simp [List.getD_eq_getElem?_getD]
        rw [e1]
        dsimp only
        rw [if_neg (by omega), if_pos rfl, if_neg (by omega), if_neg (by omega)]
        exact hx.same fun z z1 z2 => old z (by omega) z2 (by omega)

end Go.Abs
end

section
set_option linter.unusedSimpArgs false
set_option linter.unusedVariables false
set_option maxRecDepth 100000
set_option maxHeartbeats 2000000
namespace Go.Proofs.Ytnpmidgikbbnbaa.A
open Go Go.Abs Go.RowKit

theorem areAll_c (g : FuncId) (p : Int → Bool) (hp : ∀ (x : Int) (H : AH), ACalls Try.prog g [.int .i64 x] H (is (.bool (p x)) H)) (v : Value) (n : Nat) (M : List (List Int)) (H : AH) (hv : Rd2 1 H v M) (hM : SqM n M) (hn : n ≤ 1024) : ACalls Try.prog 49 [v, .func (.func g) #[] #[]] H (is (.bool (eachB p M)) H) := by
  refine acalls_up rfl (acalls_of_awp [.tmp 4] Try.func49 (by kernel_rfl) rfl rfl (Nat.le_of_ble_eq_true rfl) (by kernel_rfl) ?_)
  have hlen := hv.len
  rw [hM.1] at hlen
  try simp (disch := first | omega | (simp only [ints_length, List.length_replicate, List.length_set]; done) | (simp only [ints_length, List.length_replicate, List.length_set]; omega)) only [Sall,evalOp,init,binE,binI,unE,convE,okNil,builtE,gv,TD.isAgg,resV,↓reduceIte,Nat.reduceEqDiff,reduceCtorEq,Nat.reduceAdd,Nat.reduceMul,Nat.reduceLeDiff,quietOp,blindOp,Int.reduceEq,Int.reduceLT,Int.reduceLE,Nat.reduceLT,ti2,ti3,ti4,ti41,ti42,ti62,ti22,ti45,ti37,ti47,ti39,ti74,ti138,ti101,ti103,ti108,ti24,ti28,ti96, builtE, hlen]
  refine awp_loop (fun m t H' => ∃ a : Nat, m = n - a ∧ a ≤ n ∧ t 11 = .int .i64 a ∧ t 10 = .int .i64 n ∧ t 9 = v ∧ t 1 = .func (.func g) #[] #[] ∧ H' = H ∧ (∀ i, i < a → ∀ j, j < n → eachAt p M i j = true)) n ?_ ?_
  · refine ⟨0, by omega, by omega, ?_⟩
    try simp (disch := first | omega | (simp only [ints_length, List.length_replicate, List.length_set]; done) | (simp only [ints_length, List.length_replicate, List.length_set]; omega)) only [Sall,evalOp,init,binE,binI,unE,convE,okNil,builtE,gv,TD.isAgg,resV,↓reduceIte,Nat.reduceEqDiff,reduceCtorEq,Nat.reduceAdd,Nat.reduceMul,Nat.reduceLeDiff,quietOp,blindOp,Int.reduceEq,Int.reduceLT,Int.reduceLE,Nat.reduceLT,ti2,ti3,ti4,ti41,ti42,ti62,ti22,ti45,ti37,ti47,ti39,ti74,ti138,ti101,ti103,ti108,ti24,ti28,ti96, Int.natCast_zero, Nat.not_lt_zero, false_implies]
  · rintro m t H' ⟨a, hm, han, h11, h10, h9, h1, rfl, hall⟩
    try simp (disch := first | omega | (simp only [ints_length, List.length_replicate, List.length_set]; done) | (simp only [ints_length, List.length_replicate, List.length_set]; omega)) only [Sall,evalOp,init,binE,binI,unE,convE,okNil,builtE,gv,TD.isAgg,resV,↓reduceIte,Nat.reduceEqDiff,reduceCtorEq,Nat.reduceAdd,Nat.reduceMul,Nat.reduceLeDiff,quietOp,blindOp,Int.reduceEq,Int.reduceLT,Int.reduceLE,Nat.reduceLT,ti2,ti3,ti4,ti41,ti42,ti62,ti22,ti45,ti37,ti47,ti39,ti74,ti138,ti101,ti103,ti108,ti24,ti28,ti96, h11, h10]
    refine condC_dec (fun h => ?_) (fun h => ?_)
    · obtain ⟨i, o, u, c, r, y, my, rfl, hr, hy, hsx, hok⟩ := hv.get (j := a) (by rw [hM.1]; omega)
      have hmy := hsx.lenK1
      have hrow := hM.2 a (by omega)
      have hMl := hM.1
      rw [hrow] at hmy
      subst hmy
      try simp (disch := first | omega | (simp only [ints_length, List.length_replicate, List.length_set]; done) | (simp only [ints_length, List.length_replicate, List.length_set]; omega)) only [Sall,evalOp,init,binE,binI,unE,convE,okNil,builtE,gv,TD.isAgg,resV,↓reduceIte,Nat.reduceEqDiff,reduceCtorEq,Nat.reduceAdd,Nat.reduceMul,Nat.reduceLeDiff,quietOp,blindOp,Int.reduceEq,Int.reduceLT,Int.reduceLE,Nat.reduceLT,ti2,ti3,ti4,ti41,ti42,ti62,ti22,ti45,ti37,ti47,ti39,ti74,ti138,ti101,ti103,ti108,ti24,ti28,ti96, h11, h10, h9, h1, hr, hy, hok, builtE, hsx.len]
      rw [hMl]
      (repeat refine And.intro (by omega) ?_)
      refine awp_loop (fun z t H7 => ∃ b : Nat, z = my - b ∧ b ≤ my ∧ t 18 = .int .i64 b ∧ t 17 = .int .i64 my ∧ t 16 = y ∧ t 5 = .int .i64 a ∧ t 11 = .int .i64 a ∧ t 10 = .int .i64 my ∧ t 9 = .slice (some ⟨i, o, u⟩) M.length c ∧ t 1 = .func (.func g) #[] #[] ∧ H7 = H' ∧ (∀ j, j < b → eachAt p M a j = true)) my ?_ ?_
      · refine ⟨0, by omega, by omega, ?_⟩
        try simp (disch := first | omega | (simp only [ints_length, List.length_replicate, List.length_set]; done) | (simp only [ints_length, List.length_replicate, List.length_set]; omega)) only [Sall,evalOp,init,binE,binI,unE,convE,okNil,builtE,gv,TD.isAgg,resV,↓reduceIte,Nat.reduceEqDiff,reduceCtorEq,Nat.reduceAdd,Nat.reduceMul,Nat.reduceLeDiff,quietOp,blindOp,Int.reduceEq,Int.reduceLT,Int.reduceLE,Nat.reduceLT,ti2,ti3,ti4,ti41,ti42,ti62,ti22,ti45,ti37,ti47,ti39,ti74,ti138,ti101,ti103,ti108,ti24,ti28,ti96, Int.natCast_zero, Nat.not_lt_zero, false_implies, h11, h10, h9, h1]
        try rw [hMl]
      · rintro z t H7 ⟨b, hz, hbn, h18, h17, h16, h5, h11, h10, h9, h1, rfl, hin⟩
        try simp (disch := first | omega | (simp only [ints_length, List.length_replicate, List.length_set]; done) | (simp only [ints_length, List.length_replicate, List.length_set]; omega)) only [Sall,evalOp,init,binE,binI,unE,convE,okNil,builtE,gv,TD.isAgg,resV,↓reduceIte,Nat.reduceEqDiff,reduceCtorEq,Nat.reduceAdd,Nat.reduceMul,Nat.reduceLeDiff,quietOp,blindOp,Int.reduceEq,Int.reduceLT,Int.reduceLE,Nat.reduceLT,ti2,ti3,ti4,ti41,ti42,ti62,ti22,ti45,ti37,ti47,ti39,ti74,ti138,ti101,ti103,ti108,ti24,ti28,ti96, h18, h17]
        refine condC_dec (fun hh => ?_) (fun hh => ?_)
        · obtain ⟨i7, o7, u7, c7, r7, rfl, hr7, hc7, hs7, hg7⟩ := hsx.get (by omega)
          have g1 := hs7 b (by omega)
          by_cases hab : a = b
          · have e2 : ((a : Int) != (b : Int)) = false := by rw [hab]; exact bne_self_eq_false _
            have hbal : eachAt p M a b = true := by unfold eachAt; rw [decide_eq_true hab]; rfl
            try simp (disch := first | omega | (simp only [ints_length, List.length_replicate, List.length_set]; done) | (simp only [ints_length, List.length_replicate, List.length_set]; omega)) only [Sall,evalOp,init,binE,binI,unE,convE,okNil,builtE,gv,TD.isAgg,resV,↓reduceIte,Nat.reduceEqDiff,reduceCtorEq,Nat.reduceAdd,Nat.reduceMul,Nat.reduceLeDiff,quietOp,blindOp,Int.reduceEq,Int.reduceLT,Int.reduceLE,Nat.reduceLT,ti2,ti3,ti4,ti41,ti42,ti62,ti22,ti45,ti37,ti47,ti39,ti74,ti138,ti101,ti103,ti108,ti24,ti28,ti96, h18, h17, h16, h5, h11, h10, h9, h1, hr7, g1, e2, w64]
            (repeat refine And.intro (by omega) ?_)
            refine ⟨my - (b + 1), by omega, b + 1, rfl, by omega, rfl, fun j hj => ?_⟩
            by_cases e : j = b
            · rw [e]; exact hbal
            · exact hin j (by omega)
          · have e2 : ((a : Int) != (b : Int)) = true := by rw [bne_iff_ne]; omega
            try simp (disch := first | omega | (simp only [ints_length, List.length_replicate, List.length_set]; done) | (simp only [ints_length, List.length_replicate, List.length_set]; omega)) only [Sall,evalOp,init,binE,binI,unE,convE,okNil,builtE,gv,TD.isAgg,resV,↓reduceIte,Nat.reduceEqDiff,reduceCtorEq,Nat.reduceAdd,Nat.reduceMul,Nat.reduceLeDiff,quietOp,blindOp,Int.reduceEq,Int.reduceLT,Int.reduceLE,Nat.reduceLT,ti2,ti3,ti4,ti41,ti42,ti62,ti22,ti45,ti37,ti47,ti39,ti74,ti138,ti101,ti103,ti108,ti24,ti28,ti96, h18, h17, h16, h5, h11, h10, h9, h1, hr7, g1, e2]
            (repeat refine And.intro (by omega) ?_)
            refine (hp _ _).to ?_
            cases hx1 : p ((M.getD a []).getD b 0) with
            | true =>
              have hbal : eachAt p M a b = true := by unfold eachAt; rw [hx1]; simp
              try simp (disch := first | omega | (simp only [ints_length, List.length_replicate, List.length_set]; done) | (simp only [ints_length, List.length_replicate, List.length_set]; omega)) only [Sall,evalOp,init,binE,binI,unE,convE,okNil,builtE,gv,TD.isAgg,resV,↓reduceIte,Nat.reduceEqDiff,reduceCtorEq,Nat.reduceAdd,Nat.reduceMul,Nat.reduceLeDiff,quietOp,blindOp,Int.reduceEq,Int.reduceLT,Int.reduceLE,Nat.reduceLT,ti2,ti3,ti4,ti41,ti42,ti62,ti22,ti45,ti37,ti47,ti39,ti74,ti138,ti101,ti103,ti108,ti24,ti28,ti96, Bool.not_true, h18, h17, h16, h5, h11, h10, h9, h1, w64]
              refine ⟨my - (b + 1), by omega, b + 1, rfl, by omega, rfl, fun j hj => ?_⟩
              by_cases e : j = b
              · rw [e]; exact hbal
              · exact hin j (by omega)
            | false =>
              have hbal : eachAt p M a b = false := by
                unfold eachAt
                rw [decide_eq_false hab, hx1]; rfl
              try simp (disch := first | omega | (simp only [ints_length, List.length_replicate, List.length_set]; done) | (simp only [ints_length, List.length_replicate, List.length_set]; omega)) only [Sall,evalOp,init,binE,binI,unE,convE,okNil,builtE,gv,TD.isAgg,resV,↓reduceIte,Nat.reduceEqDiff,reduceCtorEq,Nat.reduceAdd,Nat.reduceMul,Nat.reduceLeDiff,quietOp,blindOp,Int.reduceEq,Int.reduceLT,Int.reduceLE,Nat.reduceLT,ti2,ti3,ti4,ti41,ti42,ti62,ti22,ti45,ti37,ti47,ti39,ti74,ti138,ti101,ti103,ti108,ti24,ti28,ti96, Bool.not_false]
              rw [eachB_bad (i := a) (j := b) (by rw [hMl]; omega) (by omega) hbal]
              exact ⟨rfl, Up.refl _ _⟩
        · try simp (disch := first | omega | (simp only [ints_length, List.length_replicate, List.length_set]; done) | (simp only [ints_length, List.length_replicate, List.length_set]; omega)) only [Sall,evalOp,init,binE,binI,unE,convE,okNil,builtE,gv,TD.isAgg,resV,↓reduceIte,Nat.reduceEqDiff,reduceCtorEq,Nat.reduceAdd,Nat.reduceMul,Nat.reduceLeDiff,quietOp,blindOp,Int.reduceEq,Int.reduceLT,Int.reduceLE,Nat.reduceLT,ti2,ti3,ti4,ti41,ti42,ti62,ti22,ti45,ti37,ti47,ti39,ti74,ti138,ti101,ti103,ti108,ti24,ti28,ti96, h11, h10, h9, h1, w64]
          refine ⟨my - (a + 1), by omega, a + 1, rfl, by omega, rfl, by first | rfl | rw [hMl], fun i hi j hj => ?_⟩
          by_cases e : i = a
          · rw [e]; exact hin j (by omega)
          · exact hall i (by omega) j hj
    · try simp (disch := first | omega | (simp only [ints_length, List.length_replicate, List.length_set]; done) | (simp only [ints_length, List.length_replicate, List.length_set]; omega)) only [Sall,evalOp,init,binE,binI,unE,convE,okNil,builtE,gv,TD.isAgg,resV,↓reduceIte,Nat.reduceEqDiff,reduceCtorEq,Nat.reduceAdd,Nat.reduceMul,Nat.reduceLeDiff,quietOp,blindOp,Int.reduceEq,Int.reduceLT,Int.reduceLE,Nat.reduceLT,ti2,ti3,ti4,ti41,ti42,ti62,ti22,ti45,ti37,ti47,ti39,ti74,ti138,ti101,ti103,ti108,ti24,ti28,ti96, true_and]
      rw [eachB_good (fun i hi j hj => hall i (by rw [hM.1] at hi; omega) j (by rw [hM.1] at hi; rw [hM.2 i hi] at hj; exact hj))]
      exact ⟨rfl, Up.refl _ _⟩


/-- An evening whose rounds are fresh. -/
def FrE (q : Int) (R : List (List Int)) (H : AH) (v : Value) (H' : AH) : Prop := ∃ u, v = .agg #[.int .i64 q, u] ∧ Up H.next H H' ∧ Fr2 1 62 2 H.next H'.next H' u R

theorem mdX_tmod {m i : Nat} {x : Int} (hx : 0 ≤ x) (h : x < m) : Int.tmod (x + i) m = mdX m i x := by
  unfold mdX
  rw [if_pos h, Int.tmod_eq_emod_of_nonneg (by omega)]
theorem mdX_out {m i : Nat} {x : Int} (h : ¬ x < m) : mdX m i x = x := by unfold mdX; rw [if_neg h]

end Go.Proofs.Ytnpmidgikbbnbaa.A
end
