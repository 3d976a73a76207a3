/- Contracts: squares with each number once in a row and in a column, on both sides. -/
import Derived.Test.YtbmpkihggipciaaC5
import Derived.Test.YtbmpkihggipciaaC22
import Derived.Test.YtbmpkihggipciaaPl12
set_option linter.unusedSimpArgs false
set_option linter.unusedVariables false
set_option maxRecDepth 100000
set_option maxHeartbeats 2000000
--LEN ints_length, List.length_replicate, List.length_set, colL_length
namespace Go.Proofs.Ytbmpkihggipciaa.A
open Go Go.Abs Go.RowKit

theorem indexFuncLL_c (g : FuncId) (cap : List Value) (p : List Int → Bool) (x : Value) (ll : List (List Int)) (H : AH) (hx : Rd2 1 H x ll) (hl : ll.length ≤ 4294967296)
    (hp : ∀ (y : Value) (r : List Int), r ∈ ll → Rd 1 H y r.length r → ACalls Try.prog g (y :: cap) H (is (.bool (p r)) H)) :
    ACalls Try.prog 175 [x, .func (.func g) #[] cap.toArray] H (is (.int .i64 (firstI (fun i => p (ll.getD i [])) ll.length)) H) := by
  refine acalls_of_awp [.tmp 4] Try.func175 (by kernel_rfl) rfl rfl (Nat.le_of_ble_eq_true rfl) (by kernel_rfl) ?_
  try simp (disch := first | omega | (simp only [ints_length, List.length_replicate, List.length_set, colL_length]; done) | (simp only [ints_length, List.length_replicate, List.length_set, colL_length]; omega)) only [Sall,evalOp,init,binE,binI,unE,convE,okNil,builtE,gv,TD.isAgg,resV,↓reduceIte,Nat.reduceEqDiff,reduceCtorEq,Nat.reduceAdd,Nat.reduceMul,Nat.reduceLeDiff,quietOp,blindOp,Int.reduceEq,Int.reduceLT,Int.reduceLE,Nat.reduceLT,ti2,ti3,ti4,ti79,ti80,ti28,ti25,ti31,ti22,ti33,ti24,ti67,ti111,ti100, builtE, hx.len]
  refine awp_loop (fun m t H' => ∃ a : Nat, m = ll.length - a ∧ a ≤ ll.length ∧ t 8 = .int .i64 a ∧ t 7 = .int .i64 ll.length ∧ t 0 = x ∧ t 1 = .func (.func g) #[] cap.toArray ∧ H' = H ∧ (∀ i, i < a → p (ll.getD i []) = false)) ll.length ?_ ?_
  · refine ⟨0, by omega, by omega, ?_⟩
    try simp (disch := first | omega | (simp only [ints_length, List.length_replicate, List.length_set, colL_length]; done) | (simp only [ints_length, List.length_replicate, List.length_set, colL_length]; omega)) only [Sall,evalOp,init,binE,binI,unE,convE,okNil,builtE,gv,TD.isAgg,resV,↓reduceIte,Nat.reduceEqDiff,reduceCtorEq,Nat.reduceAdd,Nat.reduceMul,Nat.reduceLeDiff,quietOp,blindOp,Int.reduceEq,Int.reduceLT,Int.reduceLE,Nat.reduceLT,ti2,ti3,ti4,ti79,ti80,ti28,ti25,ti31,ti22,ti33,ti24,ti67,ti111,ti100, Int.natCast_zero, Nat.not_lt_zero, false_implies]
  · rintro m t H' ⟨a, hm, h14, h8, h7, h0, h1, rfl, hall⟩
    try simp (disch := first | omega | (simp only [ints_length, List.length_replicate, List.length_set, colL_length]; done) | (simp only [ints_length, List.length_replicate, List.length_set, colL_length]; omega)) only [Sall,evalOp,init,binE,binI,unE,convE,okNil,builtE,gv,TD.isAgg,resV,↓reduceIte,Nat.reduceEqDiff,reduceCtorEq,Nat.reduceAdd,Nat.reduceMul,Nat.reduceLeDiff,quietOp,blindOp,Int.reduceEq,Int.reduceLT,Int.reduceLE,Nat.reduceLT,ti2,ti3,ti4,ti79,ti80,ti28,ti25,ti31,ti22,ti33,ti24,ti67,ti111,ti100, h8, h7]
    refine condC_dec (fun h => ?_) (fun h => ?_)
    · obtain ⟨i, o, u, c, r, y, my, rfl, hr, hy, hsx, hok⟩ := hx.get (j := a) (by omega)
      have hmm := hsx.lenK1
      rw [hmm] at hsx
      try simp (disch := first | omega | (simp only [ints_length, List.length_replicate, List.length_set, colL_length]; done) | (simp only [ints_length, List.length_replicate, List.length_set, colL_length]; omega)) only [Sall,evalOp,init,binE,binI,unE,convE,okNil,builtE,gv,TD.isAgg,resV,↓reduceIte,Nat.reduceEqDiff,reduceCtorEq,Nat.reduceAdd,Nat.reduceMul,Nat.reduceLeDiff,quietOp,blindOp,Int.reduceEq,Int.reduceLT,Int.reduceLE,Nat.reduceLT,ti2,ti3,ti4,ti79,ti80,ti28,ti25,ti31,ti22,ti33,ti24,ti67,ti111,ti100, h8, h7, h0, h1, hr, hy, hok]
      (repeat refine And.intro (by omega) ?_)
      refine (hp y _ (getD_mem (ll := ll) (a := a) (by omega)) hsx).to ?_
      cases hb : p (ll.getD a []) with
      | true =>
        try simp (disch := first | omega | (simp only [ints_length, List.length_replicate, List.length_set, colL_length]; done) | (simp only [ints_length, List.length_replicate, List.length_set, colL_length]; omega)) only [Sall,evalOp,init,binE,binI,unE,convE,okNil,builtE,gv,TD.isAgg,resV,↓reduceIte,Nat.reduceEqDiff,reduceCtorEq,Nat.reduceAdd,Nat.reduceMul,Nat.reduceLeDiff,quietOp,blindOp,Int.reduceEq,Int.reduceLT,Int.reduceLE,Nat.reduceLT,ti2,ti3,ti4,ti79,ti80,ti28,ti25,ti31,ti22,ti33,ti24,ti67,ti111,ti100, h8, h7, h0, h1, is]
        rw [firstI_at (p := fun i => p (ll.getD i [])) (by omega) hb hall]
      | false =>
        try simp (disch := first | omega | (simp only [ints_length, List.length_replicate, List.length_set, colL_length]; done) | (simp only [ints_length, List.length_replicate, List.length_set, colL_length]; omega)) only [Sall,evalOp,init,binE,binI,unE,convE,okNil,builtE,gv,TD.isAgg,resV,↓reduceIte,Nat.reduceEqDiff,reduceCtorEq,Nat.reduceAdd,Nat.reduceMul,Nat.reduceLeDiff,quietOp,blindOp,Int.reduceEq,Int.reduceLT,Int.reduceLE,Nat.reduceLT,ti2,ti3,ti4,ti79,ti80,ti28,ti25,ti31,ti22,ti33,ti24,ti67,ti111,ti100, h8, h7, h0, h1, w64]
        refine ⟨ll.length - (a + 1), by omega, a + 1, rfl, by omega, by omega, fun x hx => ?_⟩
        by_cases e : x = a
        · rw [e]; exact hb
        · exact hall x (by omega)
    · try simp (disch := first | omega | (simp only [ints_length, List.length_replicate, List.length_set, colL_length]; done) | (simp only [ints_length, List.length_replicate, List.length_set, colL_length]; omega)) only [Sall,evalOp,init,binE,binI,unE,convE,okNil,builtE,gv,TD.isAgg,resV,↓reduceIte,Nat.reduceEqDiff,reduceCtorEq,Nat.reduceAdd,Nat.reduceMul,Nat.reduceLeDiff,quietOp,blindOp,Int.reduceEq,Int.reduceLT,Int.reduceLE,Nat.reduceLT,ti2,ti3,ti4,ti79,ti80,ti28,ti25,ti31,ti22,ti33,ti24,ti67,ti111,ti100, is]
      rw [firstI_none (p := fun i => p (ll.getD i [])) fun x hx => hall x (by omega)]

theorem containsFuncLL_c (g : FuncId) (cap : List Value) (p : List Int → Bool) (x : Value) (ll : List (List Int)) (H : AH) (hx : Rd2 1 H x ll) (hl : ll.length ≤ 4294967296)
    (hp : ∀ (y : Value) (r : List Int), r ∈ ll → Rd 1 H y r.length r → ACalls Try.prog g (y :: cap) H (is (.bool (p r)) H)) :
    ACalls Try.prog 148 [x, .func (.func g) #[] cap.toArray] H (is (.bool ((List.range ll.length).any fun i => p (ll.getD i []))) H) := by
  refine acalls_of_awp [.tmp 4] Try.func148 (by kernel_rfl) rfl rfl (Nat.le_of_ble_eq_true rfl) (by kernel_rfl) ?_
  try simp (disch := first | omega | (simp only [ints_length, List.length_replicate, List.length_set, colL_length]; done) | (simp only [ints_length, List.length_replicate, List.length_set, colL_length]; omega)) only [Sall,evalOp,init,binE,binI,unE,convE,okNil,builtE,gv,TD.isAgg,resV,↓reduceIte,Nat.reduceEqDiff,reduceCtorEq,Nat.reduceAdd,Nat.reduceMul,Nat.reduceLeDiff,quietOp,blindOp,Int.reduceEq,Int.reduceLT,Int.reduceLE,Nat.reduceLT,ti2,ti3,ti4,ti79,ti80,ti28,ti25,ti31,ti22,ti33,ti24,ti67,ti111,ti100, true_and]
  refine (indexFuncLL_c g cap p x ll H hx hl hp).to ?_
  try simp (disch := first | omega | (simp only [ints_length, List.length_replicate, List.length_set, colL_length]; done) | (simp only [ints_length, List.length_replicate, List.length_set, colL_length]; omega)) only [Sall,evalOp,init,binE,binI,unE,convE,okNil,builtE,gv,TD.isAgg,resV,↓reduceIte,Nat.reduceEqDiff,reduceCtorEq,Nat.reduceAdd,Nat.reduceMul,Nat.reduceLeDiff,quietOp,blindOp,Int.reduceEq,Int.reduceLT,Int.reduceLE,Nat.reduceLT,ti2,ti3,ti4,ti79,ti80,ti28,ti25,ti31,ti22,ti33,ti24,ti67,ti111,ti100, is, firstI_any]

theorem any_not_all (n : Nat) (p : Nat → Bool) : ((List.range n).any fun i => !p i) = !((List.range n).all p) := by
  rw [List.any_eq_not_all_not]
  simp

theorem haveSquare11_c (n : Int) (b : Nat) (x : Int) (H : AH) (hb : H.row b = some ⟨2, true, [.int .i64 n]⟩) (hn : 1 ≤ n ∧ n ≤ 14) :
    ACalls Try.prog 151 [.int .i64 x, .pointer (some ⟨b, 0, none⟩)] H (is (.bool (!decide (0 ≤ x ∧ x ≤ n - 1))) H) := by
  refine acalls_of_awp [.tmp 3] Try.func151 (by kernel_rfl) rfl rfl (Nat.le_of_ble_eq_true rfl) (by kernel_rfl) ?_
  try simp (disch := first | omega | (simp only [ints_length, List.length_replicate, List.length_set, colL_length]; done) | (simp only [ints_length, List.length_replicate, List.length_set, colL_length]; omega)) only [Sall,evalOp,init,binE,binI,unE,convE,okNil,builtE,gv,TD.isAgg,resV,↓reduceIte,Nat.reduceEqDiff,reduceCtorEq,Nat.reduceAdd,Nat.reduceMul,Nat.reduceLeDiff,quietOp,blindOp,Int.reduceEq,Int.reduceLT,Int.reduceLE,Nat.reduceLT,ti2,ti3,ti4,ti79,ti80,ti28,ti25,ti31,ti22,ti33,ti24,ti67,ti111,ti100, hb, w64]
  refine (between_c _ _ _ _).to ?_
  try simp (disch := first | omega | (simp only [ints_length, List.length_replicate, List.length_set, colL_length]; done) | (simp only [ints_length, List.length_replicate, List.length_set, colL_length]; omega)) only [Sall,evalOp,init,binE,binI,unE,convE,okNil,builtE,gv,TD.isAgg,resV,↓reduceIte,Nat.reduceEqDiff,reduceCtorEq,Nat.reduceAdd,Nat.reduceMul,Nat.reduceLeDiff,quietOp,blindOp,Int.reduceEq,Int.reduceLT,Int.reduceLE,Nat.reduceLT,ti2,ti3,ti4,ti79,ti80,ti28,ti25,ti31,ti22,ti33,ti24,ti67,ti111,ti100, is]

theorem haveSquare1_c (n : Nat) (b : Nat) (y : Value) (r : List Int) (H : AH) (hb : H.row b = some ⟨2, true, [.int .i64 n]⟩) (hn : 1 ≤ n ∧ n ≤ 14) (hv : Rd 1 H y r.length r) (hr : r.length ≤ 4294967296) :
    ACalls Try.prog 149 [y, .pointer (some ⟨b, 0, none⟩)] H (is (.bool (!rowOkB n r)) H) := by
  refine acalls_of_awp [.tmp 3] Try.func149 (by kernel_rfl) rfl rfl (Nat.le_of_ble_eq_true rfl) (by kernel_rfl) ?_
  have hn64 : (n : Int) < 9223372036854775808 := by omega
  try simp (disch := first | omega | (simp only [ints_length, List.length_replicate, List.length_set, colL_length]; done) | (simp only [ints_length, List.length_replicate, List.length_set, colL_length]; omega)) only [Sall,evalOp,init,binE,binI,unE,convE,okNil,builtE,gv,TD.isAgg,resV,↓reduceIte,Nat.reduceEqDiff,reduceCtorEq,Nat.reduceAdd,Nat.reduceMul,Nat.reduceLeDiff,quietOp,blindOp,Int.reduceEq,Int.reduceLT,Int.reduceLE,Nat.reduceLT,ti2,ti3,ti4,ti79,ti80,ti28,ti25,ti31,ti22,ti33,ti24,ti67,ti111,ti100, true_and]
  refine draw_in [0, 2, 1, 3, 4, 5, 6, 7, 8, 9] (by kernel_rfl) (by kernel_rfl) rfl ?_
  try simp (disch := first | omega | (simp only [ints_length, List.length_replicate, List.length_set, colL_length]; done) | (simp only [ints_length, List.length_replicate, List.length_set, colL_length]; omega)) only [Sall,evalOp,init,binE,binI,unE,convE,okNil,builtE,gv,TD.isAgg,resV,↓reduceIte,Nat.reduceEqDiff,reduceCtorEq,Nat.reduceAdd,Nat.reduceMul,Nat.reduceLeDiff,quietOp,blindOp,Int.reduceEq,Int.reduceLT,Int.reduceLE,Nat.reduceLT,ti2,ti3,ti4,ti79,ti80,ti28,ti25,ti31,ti22,ti33,ti24,ti67,ti111,ti100, hb]
  refine (size_c y r H hv hr).to ?_
  unfold rowOkB
  by_cases e : r.length = n
  · have e1 : ((r.length : Int) != (n : Int)) = false := by rw [e]; exact bne_self_eq_false _
    rw [decide_eq_true e, Bool.true_and]
    try simp (disch := first | omega | (simp only [ints_length, List.length_replicate, List.length_set, colL_length]; done) | (simp only [ints_length, List.length_replicate, List.length_set, colL_length]; omega)) only [Sall,evalOp,init,binE,binI,unE,convE,okNil,builtE,gv,TD.isAgg,resV,↓reduceIte,Nat.reduceEqDiff,reduceCtorEq,Nat.reduceAdd,Nat.reduceMul,Nat.reduceLeDiff,quietOp,blindOp,Int.reduceEq,Int.reduceLT,Int.reduceLE,Nat.reduceLT,ti2,ti3,ti4,ti79,ti80,ti28,ti25,ti31,ti22,ti33,ti24,ti67,ti111,ti100, e1, List.mem_cons, List.not_mem_nil, or_false, forall_eq_or_imp, forall_eq, Array.size_empty]
    refine ⟨.inr (.inr (LE.refl _)), (containsFuncI_c 151 [.pointer (some ⟨b, 0, none⟩)] (fun x => !decide (0 ≤ x ∧ x ≤ (n : Int) - 1)) y r.length r H hv hr (fun x => haveSquare11_c n b x H hb (by omega))).to ?_⟩
    rw [any_not_all r.length fun j => decide (0 ≤ r.getD j 0 ∧ r.getD j 0 ≤ (n : Int) - 1)]
    try simp (disch := first | omega | (simp only [ints_length, List.length_replicate, List.length_set, colL_length]; done) | (simp only [ints_length, List.length_replicate, List.length_set, colL_length]; omega)) only [Sall,evalOp,init,binE,binI,unE,convE,okNil,builtE,gv,TD.isAgg,resV,↓reduceIte,Nat.reduceEqDiff,reduceCtorEq,Nat.reduceAdd,Nat.reduceMul,Nat.reduceLeDiff,quietOp,blindOp,Int.reduceEq,Int.reduceLT,Int.reduceLE,Nat.reduceLT,ti2,ti3,ti4,ti79,ti80,ti28,ti25,ti31,ti22,ti33,ti24,ti67,ti111,ti100, is]
    exact .inr (.inr (LE.refl _))
  · have e1 : ((r.length : Int) != (n : Int)) = true := by rw [bne_iff_ne]; omega
    rw [decide_eq_false e, Bool.false_and]
    try simp (disch := first | omega | (simp only [ints_length, List.length_replicate, List.length_set, colL_length]; done) | (simp only [ints_length, List.length_replicate, List.length_set, colL_length]; omega)) only [Sall,evalOp,init,binE,binI,unE,convE,okNil,builtE,gv,TD.isAgg,resV,↓reduceIte,Nat.reduceEqDiff,reduceCtorEq,Nat.reduceAdd,Nat.reduceMul,Nat.reduceLeDiff,quietOp,blindOp,Int.reduceEq,Int.reduceLT,Int.reduceLE,Nat.reduceLT,ti2,ti3,ti4,ti79,ti80,ti28,ti25,ti31,ti22,ti33,ti24,ti67,ti111,ti100, e1, List.mem_cons, List.not_mem_nil, or_false, forall_eq_or_imp, forall_eq, Array.size_empty, is, Bool.not_false]
    exact .inr (.inr (LE.refl _))

theorem sizeLL_c (x : Value) (ll : List (List Int)) (H : AH) (hx : Rd2 1 H x ll) (hl : ll.length ≤ 4294967296) : ACalls Try.prog 147 [x] H (is (.int .i64 ll.length) H) := by
  refine acalls_of_awp [.tmp 2] Try.func147 (by kernel_rfl) rfl rfl (Nat.le_of_ble_eq_true rfl) (by kernel_rfl) ?_
  try simp (disch := first | omega | (simp only [ints_length, List.length_replicate, List.length_set, colL_length]; done) | (simp only [ints_length, List.length_replicate, List.length_set, colL_length]; omega)) only [Sall,evalOp,init,binE,binI,unE,convE,okNil,builtE,gv,TD.isAgg,resV,↓reduceIte,Nat.reduceEqDiff,reduceCtorEq,Nat.reduceAdd,Nat.reduceMul,Nat.reduceLeDiff,quietOp,blindOp,Int.reduceEq,Int.reduceLT,Int.reduceLE,Nat.reduceLT,ti2,ti3,ti4,ti79,ti80,ti28,ti25,ti31,ti22,ti33,ti24,ti67,ti111,ti100, builtE, hx.len, is]

theorem haveSquare_c (n : Int) (x : Value) (ll : List (List Int)) (H : AH) (hx : Rd2 1 H x ll) (hl : ll.length ≤ 4294967296) (hl2 : ∀ r ∈ ll, r.length ≤ 4294967296) :
    ACalls Try.prog 97 [.int .i64 n, x] H (is (.bool (haveB n ll)) H) := by
  refine acalls_up rfl (ACalls.wf (by kernel_rfl) fun hs => acalls_of_awp [.tmp 4] Try.func97 (by kernel_rfl) rfl rfl (Nat.le_of_ble_eq_true rfl) (by kernel_rfl) ?_)
  try simp (disch := first | omega | (simp only [ints_length, List.length_replicate, List.length_set, colL_length]; done) | (simp only [ints_length, List.length_replicate, List.length_set, colL_length]; omega)) only [Sall,evalOp,init,binE,binI,unE,convE,okNil,builtE,gv,TD.isAgg,resV,↓reduceIte,Nat.reduceEqDiff,reduceCtorEq,Nat.reduceAdd,Nat.reduceMul,Nat.reduceLeDiff,quietOp,blindOp,Int.reduceEq,Int.reduceLT,Int.reduceLE,Nat.reduceLT,ti2,ti3,ti4,ti79,ti80,ti28,ti25,ti31,ti22,ti33,ti24,ti67,ti111,ti100, true_and]
  have up : Up H.next H (H.push ⟨2, true, [.int .i64 n]⟩) := (Up.refl _ H).push (Nat.le_refl _) _
  have e1 : (H.push ⟨2, true, [.int .i64 n]⟩).row H.next = some ⟨2, true, [.int .i64 n]⟩ := by rw [AH.push_row, if_pos rfl]
  revert up e1
  generalize H.push ⟨2, true, [.int .i64 n]⟩ = H1
  intro up e1
  have hx1 := hx.same (up.le hs).row
  refine draw_in [0, 1, 2, 3, 5, 4, 6, 7, 8, 9, 10, 11, 12, 13, 14] (by kernel_rfl) (by kernel_rfl) rfl ?_
  try simp (disch := first | omega | (simp only [ints_length, List.length_replicate, List.length_set, colL_length]; done) | (simp only [ints_length, List.length_replicate, List.length_set, colL_length]; omega)) only [Sall,evalOp,init,binE,binI,unE,convE,okNil,builtE,gv,TD.isAgg,resV,↓reduceIte,Nat.reduceEqDiff,reduceCtorEq,Nat.reduceAdd,Nat.reduceMul,Nat.reduceLeDiff,quietOp,blindOp,Int.reduceEq,Int.reduceLT,Int.reduceLE,Nat.reduceLT,ti2,ti3,ti4,ti79,ti80,ti28,ti25,ti31,ti22,ti33,ti24,ti67,ti111,ti100, e1]
  refine (between_c _ _ _ _).to ?_
  unfold haveB
  by_cases h1 : 1 ≤ n ∧ n ≤ 14
  · obtain ⟨m, rfl⟩ : ∃ m : Nat, n = m := ⟨n.toNat, by omega⟩
    rw [decide_eq_true h1, Bool.true_and, Int.toNat_natCast]
    try simp (disch := first | omega | (simp only [ints_length, List.length_replicate, List.length_set, colL_length]; done) | (simp only [ints_length, List.length_replicate, List.length_set, colL_length]; omega)) only [Sall,evalOp,init,binE,binI,unE,convE,okNil,builtE,gv,TD.isAgg,resV,↓reduceIte,Nat.reduceEqDiff,reduceCtorEq,Nat.reduceAdd,Nat.reduceMul,Nat.reduceLeDiff,quietOp,blindOp,Int.reduceEq,Int.reduceLT,Int.reduceLE,Nat.reduceLT,ti2,ti3,ti4,ti79,ti80,ti28,ti25,ti31,ti22,ti33,ti24,ti67,ti111,ti100, e1]
    refine ⟨.inr (.inr (LE.refl _)), (sizeLL_c x ll H1 hx1 hl).to ?_⟩
    by_cases h2 : ll.length = m
    · have e2 : ((ll.length : Int) == (m : Int)) = true := by rw [h2]; exact beq_self_eq_true _
      rw [decide_eq_true h2, Bool.true_and]
      try simp (disch := first | omega | (simp only [ints_length, List.length_replicate, List.length_set, colL_length]; done) | (simp only [ints_length, List.length_replicate, List.length_set, colL_length]; omega)) only [Sall,evalOp,init,binE,binI,unE,convE,okNil,builtE,gv,TD.isAgg,resV,↓reduceIte,Nat.reduceEqDiff,reduceCtorEq,Nat.reduceAdd,Nat.reduceMul,Nat.reduceLeDiff,quietOp,blindOp,Int.reduceEq,Int.reduceLT,Int.reduceLE,Nat.reduceLT,ti2,ti3,ti4,ti79,ti80,ti28,ti25,ti31,ti22,ti33,ti24,ti67,ti111,ti100, e1, e2, List.mem_cons, List.not_mem_nil, or_false, forall_eq_or_imp, forall_eq, Array.size_empty]
      refine ⟨.inr (.inr (LE.refl _)), (containsFuncLL_c 149 [.pointer (some ⟨H.next, 0, none⟩)] (fun r => !rowOkB m r) x ll H1 hx1 hl (fun y r hr hy => haveSquare1_c m H.next y r H1 e1 (by omega) hy (hl2 r hr))).to ?_⟩
      rw [any_not_all ll.length fun i => rowOkB m (ll.getD i [])]
      try simp (disch := first | omega | (simp only [ints_length, List.length_replicate, List.length_set, colL_length]; done) | (simp only [ints_length, List.length_replicate, List.length_set, colL_length]; omega)) only [Sall,evalOp,init,binE,binI,unE,convE,okNil,builtE,gv,TD.isAgg,resV,↓reduceIte,Nat.reduceEqDiff,reduceCtorEq,Nat.reduceAdd,Nat.reduceMul,Nat.reduceLeDiff,quietOp,blindOp,Int.reduceEq,Int.reduceLT,Int.reduceLE,Nat.reduceLT,ti2,ti3,ti4,ti79,ti80,ti28,ti25,ti31,ti22,ti33,ti24,ti67,ti111,ti100, Bool.not_not]
      exact ⟨.inr (.inr (LE.refl _)), up⟩
    · have e2 : ((ll.length : Int) == (m : Int)) = false := by rw [beq_eq_false_iff_ne]; omega
      rw [decide_eq_false h2, Bool.false_and]
      try simp (disch := first | omega | (simp only [ints_length, List.length_replicate, List.length_set, colL_length]; done) | (simp only [ints_length, List.length_replicate, List.length_set, colL_length]; omega)) only [Sall,evalOp,init,binE,binI,unE,convE,okNil,builtE,gv,TD.isAgg,resV,↓reduceIte,Nat.reduceEqDiff,reduceCtorEq,Nat.reduceAdd,Nat.reduceMul,Nat.reduceLeDiff,quietOp,blindOp,Int.reduceEq,Int.reduceLT,Int.reduceLE,Nat.reduceLT,ti2,ti3,ti4,ti79,ti80,ti28,ti25,ti31,ti22,ti33,ti24,ti67,ti111,ti100, e1, e2, List.mem_cons, List.not_mem_nil, or_false, forall_eq_or_imp, forall_eq, Array.size_empty]
      exact ⟨.inr (.inr (LE.refl _)), up⟩
  · rw [decide_eq_false h1, Bool.false_and]
    try simp (disch := first | omega | (simp only [ints_length, List.length_replicate, List.length_set, colL_length]; done) | (simp only [ints_length, List.length_replicate, List.length_set, colL_length]; omega)) only [Sall,evalOp,init,binE,binI,unE,convE,okNil,builtE,gv,TD.isAgg,resV,↓reduceIte,Nat.reduceEqDiff,reduceCtorEq,Nat.reduceAdd,Nat.reduceMul,Nat.reduceLeDiff,quietOp,blindOp,Int.reduceEq,Int.reduceLT,Int.reduceLE,Nat.reduceLT,ti2,ti3,ti4,ti79,ti80,ti28,ti25,ti31,ti22,ti33,ti24,ti67,ti111,ti100, e1, List.mem_cons, List.not_mem_nil, or_false, forall_eq_or_imp, forall_eq, Array.size_empty]
    exact ⟨.inr (.inr (LE.refl _)), up⟩

theorem l09Rows_c (n : Int) (x : Value) (ll : List (List Int)) (H : AH) (hx : Rd2 1 H x ll) (hl : ll.length ≤ 4294967296) (hl2 : ∀ r ∈ ll, r.length ≤ 4294967296) :
    ACalls Try.prog 95 [.int .i64 n, x] H (is (.int .i64 (sqoC n ll)) H) := by
  refine acalls_of_awp [.tmp 4] Try.func95 (by kernel_rfl) rfl rfl (Nat.le_of_ble_eq_true rfl) (by kernel_rfl) ?_
  try simp (disch := first | omega | (simp only [ints_length, List.length_replicate, List.length_set, colL_length]; done) | (simp only [ints_length, List.length_replicate, List.length_set, colL_length]; omega)) only [Sall,evalOp,init,binE,binI,unE,convE,okNil,builtE,gv,TD.isAgg,resV,↓reduceIte,Nat.reduceEqDiff,reduceCtorEq,Nat.reduceAdd,Nat.reduceMul,Nat.reduceLeDiff,quietOp,blindOp,Int.reduceEq,Int.reduceLT,Int.reduceLE,Nat.reduceLT,ti2,ti3,ti4,ti79,ti80,ti28,ti25,ti31,ti22,ti33,ti24,ti67,ti111,ti100, true_and]
  refine (l01In_c _ _ _ _).to ?_
  unfold sqoC haveB
  by_cases h1 : 1 ≤ n ∧ n ≤ 14
  · obtain ⟨m, rfl⟩ : ∃ m : Nat, n = m := ⟨n.toNat, by omega⟩
    rw [decide_eq_true h1, Bool.true_and, Int.toNat_natCast]
    by_cases h2 : ll.length = m
    · have e2 : ((ll.length : Int) != (m : Int)) = false := by rw [h2]; exact bne_self_eq_false _
      rw [decide_eq_true h2, Bool.true_and]
      try simp (disch := first | omega | (simp only [ints_length, List.length_replicate, List.length_set, colL_length]; done) | (simp only [ints_length, List.length_replicate, List.length_set, colL_length]; omega)) only [Sall,evalOp,init,binE,binI,unE,convE,okNil,builtE,gv,TD.isAgg,resV,↓reduceIte,Nat.reduceEqDiff,reduceCtorEq,Nat.reduceAdd,Nat.reduceMul,Nat.reduceLeDiff,quietOp,blindOp,Int.reduceEq,Int.reduceLT,Int.reduceLE,Nat.reduceLT,ti2,ti3,ti4,ti79,ti80,ti28,ti25,ti31,ti22,ti33,ti24,ti67,ti111,ti100, Bool.not_true, builtE, hx.len, e2]
      refine awp_loop (fun z t H' => ∃ a : Nat, z = ll.length - a ∧ a ≤ ll.length ∧ t 5 = .int .i64 a ∧ t 0 = .int .i64 m ∧ t 1 = x ∧ H' = H ∧ (∀ i, i < a → rowOkB m (ll.getD i []) = true)) ll.length ?_ ?_
      · refine ⟨0, by omega, by omega, ?_⟩
        try simp (disch := first | omega | (simp only [ints_length, List.length_replicate, List.length_set, colL_length]; done) | (simp only [ints_length, List.length_replicate, List.length_set, colL_length]; omega)) only [Sall,evalOp,init,binE,binI,unE,convE,okNil,builtE,gv,TD.isAgg,resV,↓reduceIte,Nat.reduceEqDiff,reduceCtorEq,Nat.reduceAdd,Nat.reduceMul,Nat.reduceLeDiff,quietOp,blindOp,Int.reduceEq,Int.reduceLT,Int.reduceLE,Nat.reduceLT,ti2,ti3,ti4,ti79,ti80,ti28,ti25,ti31,ti22,ti33,ti24,ti67,ti111,ti100, Int.natCast_zero, Nat.not_lt_zero, false_implies]
      · rintro z t H' ⟨a, hz, ha, h5, h0, h1', rfl, hall⟩
        try simp (disch := first | omega | (simp only [ints_length, List.length_replicate, List.length_set, colL_length]; done) | (simp only [ints_length, List.length_replicate, List.length_set, colL_length]; omega)) only [Sall,evalOp,init,binE,binI,unE,convE,okNil,builtE,gv,TD.isAgg,resV,↓reduceIte,Nat.reduceEqDiff,reduceCtorEq,Nat.reduceAdd,Nat.reduceMul,Nat.reduceLeDiff,quietOp,blindOp,Int.reduceEq,Int.reduceLT,Int.reduceLE,Nat.reduceLT,ti2,ti3,ti4,ti79,ti80,ti28,ti25,ti31,ti22,ti33,ti24,ti67,ti111,ti100, h5, h1', builtE, hx.len]
        refine condC_dec (fun h => ?_) (fun h => ?_)
        · obtain ⟨i, o, u, c, r, y, my, rfl, hr, hy, hsx, hok⟩ := hx.get (j := a) (by omega)
          have hmm := hsx.lenK1
          have hml := hl2 _ (getD_mem (ll := ll) (a := a) (by omega))
          rw [hmm] at hsx
          by_cases h3 : (ll.getD a []).length = m
          · have e3 : (((ll.getD a []).length : Int) != (m : Int)) = false := by rw [h3]; exact bne_self_eq_false _
            try simp (disch := first | omega | (simp only [ints_length, List.length_replicate, List.length_set, colL_length]; done) | (simp only [ints_length, List.length_replicate, List.length_set, colL_length]; omega)) only [Sall,evalOp,init,binE,binI,unE,convE,okNil,builtE,gv,TD.isAgg,resV,↓reduceIte,Nat.reduceEqDiff,reduceCtorEq,Nat.reduceAdd,Nat.reduceMul,Nat.reduceLeDiff,quietOp,blindOp,Int.reduceEq,Int.reduceLT,Int.reduceLE,Nat.reduceLT,ti2,ti3,ti4,ti79,ti80,ti28,ti25,ti31,ti22,ti33,ti24,ti67,ti111,ti100, h5, h0, h1', hr, hy, hok, builtE, hsx.len, e3]
            (repeat refine And.intro (by omega) ?_)
            refine awp_loop (fun z t H2 => ∃ b : Nat, z = (ll.getD a []).length - b ∧ b ≤ (ll.getD a []).length ∧ t 6 = .int .i64 b ∧ t 5 = .int .i64 a ∧ t 0 = .int .i64 m ∧ t 1 = .slice (some ⟨i, o, u⟩) ll.length c ∧ H2 = H' ∧ (∀ j, j < b → (0 ≤ (ll.getD a []).getD j 0 ∧ (ll.getD a []).getD j 0 ≤ (m : Int) - 1))) (ll.getD a []).length ?_ ?_
            · refine ⟨0, by omega, by omega, ?_⟩
              try simp (disch := first | omega | (simp only [ints_length, List.length_replicate, List.length_set, colL_length]; done) | (simp only [ints_length, List.length_replicate, List.length_set, colL_length]; omega)) only [Sall,evalOp,init,binE,binI,unE,convE,okNil,builtE,gv,TD.isAgg,resV,↓reduceIte,Nat.reduceEqDiff,reduceCtorEq,Nat.reduceAdd,Nat.reduceMul,Nat.reduceLeDiff,quietOp,blindOp,Int.reduceEq,Int.reduceLT,Int.reduceLE,Nat.reduceLT,ti2,ti3,ti4,ti79,ti80,ti28,ti25,ti31,ti22,ti33,ti24,ti67,ti111,ti100, Int.natCast_zero, Nat.not_lt_zero, false_implies, h5, h0, h1']
            · rintro z t H4 ⟨b, hz, hb, h6, h5, h0, h1', rfl, hin⟩
              try simp (disch := first | omega | (simp only [ints_length, List.length_replicate, List.length_set, colL_length]; done) | (simp only [ints_length, List.length_replicate, List.length_set, colL_length]; omega)) only [Sall,evalOp,init,binE,binI,unE,convE,okNil,builtE,gv,TD.isAgg,resV,↓reduceIte,Nat.reduceEqDiff,reduceCtorEq,Nat.reduceAdd,Nat.reduceMul,Nat.reduceLeDiff,quietOp,blindOp,Int.reduceEq,Int.reduceLT,Int.reduceLE,Nat.reduceLT,ti2,ti3,ti4,ti79,ti80,ti28,ti25,ti31,ti22,ti33,ti24,ti67,ti111,ti100, h6, h5, h1', hr, hy, hok, builtE, hsx.len]
              (repeat refine And.intro (by omega) ?_)
              refine condC_dec (fun hh => ?_) (fun hh => ?_)
              · obtain ⟨i7, o7, u7, c7, r7, rfl, hr7, hc7, hs7, hg7⟩ := hsx.get (by omega)
                have g1 := hs7 b (by omega)
                try simp (disch := first | omega | (simp only [ints_length, List.length_replicate, List.length_set, colL_length]; done) | (simp only [ints_length, List.length_replicate, List.length_set, colL_length]; omega)) only [Sall,evalOp,init,binE,binI,unE,convE,okNil,builtE,gv,TD.isAgg,resV,↓reduceIte,Nat.reduceEqDiff,reduceCtorEq,Nat.reduceAdd,Nat.reduceMul,Nat.reduceLeDiff,quietOp,blindOp,Int.reduceEq,Int.reduceLT,Int.reduceLE,Nat.reduceLT,ti2,ti3,ti4,ti79,ti80,ti28,ti25,ti31,ti22,ti33,ti24,ti67,ti111,ti100, h6, h5, h0, h1', hr, hy, hok, hr7, g1, w64]
                (repeat refine And.intro (by omega) ?_)
                refine (l01In_c _ _ _ _).to ?_
                by_cases hin2 : 0 ≤ (ll.getD a []).getD b 0 ∧ (ll.getD a []).getD b 0 ≤ (m : Int) - 1
                · rw [decide_eq_true hin2]
                  try simp (disch := first | omega | (simp only [ints_length, List.length_replicate, List.length_set, colL_length]; done) | (simp only [ints_length, List.length_replicate, List.length_set, colL_length]; omega)) only [Sall,evalOp,init,binE,binI,unE,convE,okNil,builtE,gv,TD.isAgg,resV,↓reduceIte,Nat.reduceEqDiff,reduceCtorEq,Nat.reduceAdd,Nat.reduceMul,Nat.reduceLeDiff,quietOp,blindOp,Int.reduceEq,Int.reduceLT,Int.reduceLE,Nat.reduceLT,ti2,ti3,ti4,ti79,ti80,ti28,ti25,ti31,ti22,ti33,ti24,ti67,ti111,ti100, Bool.not_true, h6, h5, h0, h1', w64]
                  refine ⟨(ll.getD a []).length - (b + 1), by omega, b + 1, rfl, by omega, rfl, fun j hj => ?_⟩
                  by_cases e : j = b
                  · rw [e]; exact hin2
                  · exact hin j (by omega)
                · rw [decide_eq_false hin2]
                  try simp (disch := first | omega | (simp only [ints_length, List.length_replicate, List.length_set, colL_length]; done) | (simp only [ints_length, List.length_replicate, List.length_set, colL_length]; omega)) only [Sall,evalOp,init,binE,binI,unE,convE,okNil,builtE,gv,TD.isAgg,resV,↓reduceIte,Nat.reduceEqDiff,reduceCtorEq,Nat.reduceAdd,Nat.reduceMul,Nat.reduceLeDiff,quietOp,blindOp,Int.reduceEq,Int.reduceLT,Int.reduceLE,Nat.reduceLT,ti2,ti3,ti4,ti79,ti80,ti28,ti25,ti31,ti22,ti33,ti24,ti67,ti111,ti100, Bool.not_false, is]
                  rw [all_false_of (i := a) (by omega) (by unfold rowOkB; rw [all_false_of (i := b) (by omega) (decide_eq_false hin2), Bool.and_false])]
                  simp
              · try simp (disch := first | omega | (simp only [ints_length, List.length_replicate, List.length_set, colL_length]; done) | (simp only [ints_length, List.length_replicate, List.length_set, colL_length]; omega)) only [Sall,evalOp,init,binE,binI,unE,convE,okNil,builtE,gv,TD.isAgg,resV,↓reduceIte,Nat.reduceEqDiff,reduceCtorEq,Nat.reduceAdd,Nat.reduceMul,Nat.reduceLeDiff,quietOp,blindOp,Int.reduceEq,Int.reduceLT,Int.reduceLE,Nat.reduceLT,ti2,ti3,ti4,ti79,ti80,ti28,ti25,ti31,ti22,ti33,ti24,ti67,ti111,ti100, h5, h0, h1', w64]
                refine ⟨ll.length - (a + 1), by omega, a + 1, rfl, by omega, rfl, fun j hj => ?_⟩
                by_cases e : j = a
                · rw [e]; unfold rowOkB
                  rw [decide_eq_true h3, Bool.true_and, all_true_of]
                  intro q hq
                  exact decide_eq_true (hin q (by omega))
                · exact hall j (by omega)
          · have e3 : (((ll.getD a []).length : Int) != (m : Int)) = true := by rw [bne_iff_ne]; omega
            try simp (disch := first | omega | (simp only [ints_length, List.length_replicate, List.length_set, colL_length]; done) | (simp only [ints_length, List.length_replicate, List.length_set, colL_length]; omega)) only [Sall,evalOp,init,binE,binI,unE,convE,okNil,builtE,gv,TD.isAgg,resV,↓reduceIte,Nat.reduceEqDiff,reduceCtorEq,Nat.reduceAdd,Nat.reduceMul,Nat.reduceLeDiff,quietOp,blindOp,Int.reduceEq,Int.reduceLT,Int.reduceLE,Nat.reduceLT,ti2,ti3,ti4,ti79,ti80,ti28,ti25,ti31,ti22,ti33,ti24,ti67,ti111,ti100, h5, h0, h1', hr, hy, hok, builtE, hsx.len, e3, is]
            (repeat refine And.intro (by omega) ?_)
            rw [all_false_of (i := a) (by omega) (by unfold rowOkB; rw [decide_eq_false h3, Bool.false_and])]
            simp
        · try simp (disch := first | omega | (simp only [ints_length, List.length_replicate, List.length_set, colL_length]; done) | (simp only [ints_length, List.length_replicate, List.length_set, colL_length]; omega)) only [Sall,evalOp,init,binE,binI,unE,convE,okNil,builtE,gv,TD.isAgg,resV,↓reduceIte,Nat.reduceEqDiff,reduceCtorEq,Nat.reduceAdd,Nat.reduceMul,Nat.reduceLeDiff,quietOp,blindOp,Int.reduceEq,Int.reduceLT,Int.reduceLE,Nat.reduceLT,ti2,ti3,ti4,ti79,ti80,ti28,ti25,ti31,ti22,ti33,ti24,ti67,ti111,ti100, is]
          rw [all_true_of fun i hi => hall i (by omega)]
          simp
    · have e2 : ((ll.length : Int) != (m : Int)) = true := by rw [bne_iff_ne]; omega
      rw [decide_eq_false h2, Bool.false_and]
      try simp (disch := first | omega | (simp only [ints_length, List.length_replicate, List.length_set, colL_length]; done) | (simp only [ints_length, List.length_replicate, List.length_set, colL_length]; omega)) only [Sall,evalOp,init,binE,binI,unE,convE,okNil,builtE,gv,TD.isAgg,resV,↓reduceIte,Nat.reduceEqDiff,reduceCtorEq,Nat.reduceAdd,Nat.reduceMul,Nat.reduceLeDiff,quietOp,blindOp,Int.reduceEq,Int.reduceLT,Int.reduceLE,Nat.reduceLT,ti2,ti3,ti4,ti79,ti80,ti28,ti25,ti31,ti22,ti33,ti24,ti67,ti111,ti100, Bool.not_true, builtE, hx.len, e2, is]
  · rw [decide_eq_false h1, Bool.false_and]
    try simp (disch := first | omega | (simp only [ints_length, List.length_replicate, List.length_set, colL_length]; done) | (simp only [ints_length, List.length_replicate, List.length_set, colL_length]; omega)) only [Sall,evalOp,init,binE,binI,unE,convE,okNil,builtE,gv,TD.isAgg,resV,↓reduceIte,Nat.reduceEqDiff,reduceCtorEq,Nat.reduceAdd,Nat.reduceMul,Nat.reduceLeDiff,quietOp,blindOp,Int.reduceEq,Int.reduceLT,Int.reduceLE,Nat.reduceLT,ti2,ti3,ti4,ti79,ti80,ti28,ti25,ti31,ti22,ti33,ti24,ti67,ti111,ti100, Bool.not_false, is]
theorem isLatin_c (m : Nat) (x : Value) (ll : List (List Int)) (H : AH) (hx : Rd2 1 H x ll) (hl : ll.length = m) (hm : m ≤ 14) (hin : ∀ i, i < m → (ll.getD i []).length = m ∧ ∀ j, j < m → 0 ≤ (ll.getD i []).getD j 0 ∧ (ll.getD i []).getD j 0 < m) :
    ACalls Try.prog 98 [.int .i64 m, x] H (is (.bool (latB m ll)) H) := by
  refine acalls_up rfl (ACalls.wf (by kernel_rfl) fun hs => acalls_of_awp [.tmp 4] Try.func98 (by kernel_rfl) rfl rfl (Nat.le_of_ble_eq_true rfl) (by kernel_rfl) ?_)
  try simp (disch := first | omega | (simp only [ints_length, List.length_replicate, List.length_set, colL_length]; done) | (simp only [ints_length, List.length_replicate, List.length_set, colL_length]; omega)) only [Sall,evalOp,init,binE,binI,unE,convE,okNil,builtE,gv,TD.isAgg,resV,↓reduceIte,Nat.reduceEqDiff,reduceCtorEq,Nat.reduceAdd,Nat.reduceMul,Nat.reduceLeDiff,quietOp,blindOp,Int.reduceEq,Int.reduceLT,Int.reduceLE,Nat.reduceLT,ti2,ti3,ti4,ti79,ti80,ti28,ti25,ti31,ti22,ti33,ti24,ti67,ti111,ti100, true_and]
  refine awp_loop (fun z t H' => ∃ a : Nat, z = m - a ∧ a ≤ m ∧ t 10 = .int .i64 a ∧ t 9 = .int .i64 m ∧ t 0 = .int .i64 m ∧ t 1 = x ∧ Up H.next H H' ∧ (∀ i, i < a → latAt m ll i = true)) m ?_ ?_
  · refine ⟨0, by omega, by omega, ?_⟩
    try simp (disch := first | omega | (simp only [ints_length, List.length_replicate, List.length_set, colL_length]; done) | (simp only [ints_length, List.length_replicate, List.length_set, colL_length]; omega)) only [Sall,evalOp,init,binE,binI,unE,convE,okNil,builtE,gv,TD.isAgg,resV,↓reduceIte,Nat.reduceEqDiff,reduceCtorEq,Nat.reduceAdd,Nat.reduceMul,Nat.reduceLeDiff,quietOp,blindOp,Int.reduceEq,Int.reduceLT,Int.reduceLE,Nat.reduceLT,ti2,ti3,ti4,ti79,ti80,ti28,ti25,ti31,ti22,ti33,ti24,ti67,ti111,ti100, Int.natCast_zero, Nat.not_lt_zero, false_implies]
    exact Up.refl _ _
  · rintro z t H' ⟨a, hz, ha, h10, h9, h0, h1, hup, hall⟩
    have hup1 := hup.next
    try simp (disch := first | omega | (simp only [ints_length, List.length_replicate, List.length_set, colL_length]; done) | (simp only [ints_length, List.length_replicate, List.length_set, colL_length]; omega)) only [Sall,evalOp,init,binE,binI,unE,convE,okNil,builtE,gv,TD.isAgg,resV,↓reduceIte,Nat.reduceEqDiff,reduceCtorEq,Nat.reduceAdd,Nat.reduceMul,Nat.reduceLeDiff,quietOp,blindOp,Int.reduceEq,Int.reduceLT,Int.reduceLE,Nat.reduceLT,ti2,ti3,ti4,ti79,ti80,ti28,ti25,ti31,ti22,ti33,ti24,ti67,ti111,ti100, h10, h9]
    refine condC_dec (fun h => ?_) (fun h => ?_)
    · have hx' := hx.same (hup.le hs).row
      try simp (disch := first | omega | (simp only [ints_length, List.length_replicate, List.length_set, colL_length]; done) | (simp only [ints_length, List.length_replicate, List.length_set, colL_length]; omega)) only [Sall,evalOp,init,binE,binI,unE,convE,okNil,builtE,gv,TD.isAgg,resV,↓reduceIte,Nat.reduceEqDiff,reduceCtorEq,Nat.reduceAdd,Nat.reduceMul,Nat.reduceLeDiff,quietOp,blindOp,Int.reduceEq,Int.reduceLT,Int.reduceLE,Nat.reduceLT,ti2,ti3,ti4,ti79,ti80,ti28,ti25,ti31,ti22,ti33,ti24,ti67,ti111,ti100, h10, h9, h0, h1, builtE, hx'.len, zeros_zero]
      refine awp_loop (fun z t H2 => ∃ (b : Nat) (w : Value) (lo hi : Nat), z = m - b ∧ b ≤ m ∧ t 16 = .int .i64 b ∧ t 15 = .int .i64 m ∧ t 14 = x ∧ t 6 = w ∧ t 5 = .int .i64 a ∧ t 10 = .int .i64 a ∧ t 9 = .int .i64 m ∧ t 0 = .int .i64 m ∧ t 1 = x ∧ Up H'.next H' H2 ∧ H'.next ≤ lo ∧ lo ≤ hi ∧ hi ≤ H2.next ∧ Fr 1 2 lo hi H2 w b (colL ll a b)) m ?_ ?_
      · refine ⟨0, .slice (some ⟨H'.next, 0, some 1⟩) 0 0, H'.next, H'.next + 1, by omega, by omega, ?_⟩
        try simp (disch := first | omega | (simp only [ints_length, List.length_replicate, List.length_set, colL_length]; done) | (simp only [ints_length, List.length_replicate, List.length_set, colL_length]; omega)) only [Sall,evalOp,init,binE,binI,unE,convE,okNil,builtE,gv,TD.isAgg,resV,↓reduceIte,Nat.reduceEqDiff,reduceCtorEq,Nat.reduceAdd,Nat.reduceMul,Nat.reduceLeDiff,quietOp,blindOp,Int.reduceEq,Int.reduceLT,Int.reduceLE,Nat.reduceLT,ti2,ti3,ti4,ti79,ti80,ti28,ti25,ti31,ti22,ti33,ti24,ti67,ti111,ti100, Int.natCast_zero, h10, h9, h0, h1, hl]
        refine ⟨(Up.refl _ H').push (by omega) _, ?_⟩
        (repeat refine And.intro (by omega) ?_)
        exact ⟨by simp [colL], .inr ⟨H'.next, Nat.le_refl _, Nat.lt_succ_self _, rfl, by rw [AH.push_row, if_pos rfl]; rfl⟩⟩
      · rintro z t H2 ⟨b, w, lo, hi, hz, hb, h16, h15, h14, h6, h5, h10, h9, h0, h1, hup2, hlo, hlh, hhi, hw⟩
        have hup21 := hup2.next
        have hU2 : Up H.next H H2 := hup.trans hup2 (by omega)
        have hx2 := hx.same (hU2.le hs).row
        try simp (disch := first | omega | (simp only [ints_length, List.length_replicate, List.length_set, colL_length]; done) | (simp only [ints_length, List.length_replicate, List.length_set, colL_length]; omega)) only [Sall,evalOp,init,binE,binI,unE,convE,okNil,builtE,gv,TD.isAgg,resV,↓reduceIte,Nat.reduceEqDiff,reduceCtorEq,Nat.reduceAdd,Nat.reduceMul,Nat.reduceLeDiff,quietOp,blindOp,Int.reduceEq,Int.reduceLT,Int.reduceLE,Nat.reduceLT,ti2,ti3,ti4,ti79,ti80,ti28,ti25,ti31,ti22,ti33,ti24,ti67,ti111,ti100, h16, h15]
        refine condC_dec (fun hh => ?_) (fun hh => ?_)
        · obtain ⟨i, o, u, c, r, y, my, rfl, hr, hy, hsx, hok⟩ := hx2.get (j := b) (by omega)
          have hmm := hsx.lenK1
          have hlb := (hin b (by omega)).1
          rw [hmm, hlb] at hsx
          have hsl := hsx.len
          obtain ⟨i7, o7, u7, c7, r7, rfl, hr7, hc7, hs7, hg7⟩ := hsx.get (by omega)
          have g1 := hs7 a (by omega)
          have zz : zeros 1 [.int .i64 0] = [.int .i64 0] := rfl
          try simp (disch := first | omega | (simp only [ints_length, List.length_replicate, List.length_set, colL_length]; done) | (simp only [ints_length, List.length_replicate, List.length_set, colL_length]; omega)) only [Sall,evalOp,init,binE,binI,unE,convE,okNil,builtE,gv,TD.isAgg,resV,↓reduceIte,Nat.reduceEqDiff,reduceCtorEq,Nat.reduceAdd,Nat.reduceMul,Nat.reduceLeDiff,quietOp,blindOp,Int.reduceEq,Int.reduceLT,Int.reduceLE,Nat.reduceLT,ti2,ti3,ti4,ti79,ti80,ti28,ti25,ti31,ti22,ti33,ti24,ti67,ti111,ti100, h16, h15, h14, h6, h5, h10, h9, h0, h1, hr, hy, hok, hr7, g1, zz, slCells]
          (repeat refine And.intro (by omega) ?_)
          obtain ⟨H4, e4⟩ : ∃ H4, H4 = H2.push ⟨2, true, [.int .i64 ((ll.getD b []).getD a 0)]⟩ := ⟨_, rfl⟩
          have n4 : H4.next = H2.next + 1 := by rw [e4]; rfl
          have s4 : ∀ i, i < H2.next → H4.row i = H2.row i := fun i hi => by rw [e4, AH.push_row, if_neg (by omega)]
          rw [← e4]
          clear e4
          refine appE_fr (k := 1) (lo := lo) (hi := hi) (l := colL ll a b) (m := [(ll.getD b []).getD a 0]) (hw.same fun i _ hi => s4 i (by omega)) rfl (by omega) rfl (by omega) (by decide) (by omega) (by omega) ?_
          intro v' H5 n5 s5 f5
          try simp (disch := first | omega | (simp only [ints_length, List.length_replicate, List.length_set, colL_length]; done) | (simp only [ints_length, List.length_replicate, List.length_set, colL_length]; omega)) only [Sall,evalOp,init,binE,binI,unE,convE,okNil,builtE,gv,TD.isAgg,resV,↓reduceIte,Nat.reduceEqDiff,reduceCtorEq,Nat.reduceAdd,Nat.reduceMul,Nat.reduceLeDiff,quietOp,blindOp,Int.reduceEq,Int.reduceLT,Int.reduceLE,Nat.reduceLT,ti2,ti3,ti4,ti79,ti80,ti28,ti25,ti31,ti22,ti33,ti24,ti67,ti111,ti100, h16, h15, h14, h5, h10, h9, h0, h1, w64]
          refine ⟨m - (b + 1), by omega, b + 1, v', H4.next, H4.next + 1, rfl, by omega, rfl, rfl, ⟨by omega, fun i hi => by rw [s5 i (by omega) (by omega), s4 i (by omega), hup2.row i hi]⟩, by omega, by omega, by omega, ?_⟩
          rw [colL_succ]; exact f5
        · have hb2 : b = m := by omega
          subst hb2
          obtain ⟨i, o, u, c, r, y, my, rfl, hr, hy, hsx, hok⟩ := hx2.get (j := a) (by omega)
          have hmm := hsx.lenK1
          rw [hmm] at hsx
          have hla := (hin a (by omega)).1
          try simp (disch := first | omega | (simp only [ints_length, List.length_replicate, List.length_set, colL_length]; done) | (simp only [ints_length, List.length_replicate, List.length_set, colL_length]; omega)) only [Sall,evalOp,init,binE,binI,unE,convE,okNil,builtE,gv,TD.isAgg,resV,↓reduceIte,Nat.reduceEqDiff,reduceCtorEq,Nat.reduceAdd,Nat.reduceMul,Nat.reduceLeDiff,quietOp,blindOp,Int.reduceEq,Int.reduceLT,Int.reduceLE,Nat.reduceLT,ti2,ti3,ti4,ti79,ti80,ti28,ti25,ti31,ti22,ti33,ti24,ti67,ti111,ti100, h6, h5, h10, h9, h0, h1, hr, hy, hok]
          (repeat refine And.intro (by omega) ?_)
          refine (isOrder_c b y _ H2 hsx (by omega)).to ?_
          cases ho1 : ordB b (ll.getD a []) with
          | false =>
            try simp (disch := first | omega | (simp only [ints_length, List.length_replicate, List.length_set, colL_length]; done) | (simp only [ints_length, List.length_replicate, List.length_set, colL_length]; omega)) only [Sall,evalOp,init,binE,binI,unE,convE,okNil,builtE,gv,TD.isAgg,resV,↓reduceIte,Nat.reduceEqDiff,reduceCtorEq,Nat.reduceAdd,Nat.reduceMul,Nat.reduceLeDiff,quietOp,blindOp,Int.reduceEq,Int.reduceLT,Int.reduceLE,Nat.reduceLT,ti2,ti3,ti4,ti79,ti80,ti28,ti25,ti31,ti22,ti33,ti24,ti67,ti111,ti100, Bool.not_false]
            unfold latB
            rw [all_false_of (i := a) (by omega) (by unfold latAt; rw [ho1, Bool.false_and])]
            exact ⟨rfl, hU2⟩
          | true =>
            have hcl := colL_length ll a b
            have hw3 : Rd 1 H2 w (colL ll a b).length (colL ll a b) := by rw [hcl]; exact hw.rd
            try simp (disch := first | omega | (simp only [ints_length, List.length_replicate, List.length_set, colL_length]; done) | (simp only [ints_length, List.length_replicate, List.length_set, colL_length]; omega)) only [Sall,evalOp,init,binE,binI,unE,convE,okNil,builtE,gv,TD.isAgg,resV,↓reduceIte,Nat.reduceEqDiff,reduceCtorEq,Nat.reduceAdd,Nat.reduceMul,Nat.reduceLeDiff,quietOp,blindOp,Int.reduceEq,Int.reduceLT,Int.reduceLE,Nat.reduceLT,ti2,ti3,ti4,ti79,ti80,ti28,ti25,ti31,ti22,ti33,ti24,ti67,ti111,ti100, Bool.not_true, h6, h5, h10, h9, h0, h1]
            refine (isOrder_c b w _ H2 hw3 (by omega)).to ?_
            cases ho2 : ordB b (colL ll a b) with
            | false =>
              try simp (disch := first | omega | (simp only [ints_length, List.length_replicate, List.length_set, colL_length]; done) | (simp only [ints_length, List.length_replicate, List.length_set, colL_length]; omega)) only [Sall,evalOp,init,binE,binI,unE,convE,okNil,builtE,gv,TD.isAgg,resV,↓reduceIte,Nat.reduceEqDiff,reduceCtorEq,Nat.reduceAdd,Nat.reduceMul,Nat.reduceLeDiff,quietOp,blindOp,Int.reduceEq,Int.reduceLT,Int.reduceLE,Nat.reduceLT,ti2,ti3,ti4,ti79,ti80,ti28,ti25,ti31,ti22,ti33,ti24,ti67,ti111,ti100, Bool.not_false]
              unfold latB
              rw [all_false_of (i := a) (by omega) (by unfold latAt; rw [ho2, Bool.and_false])]
              exact ⟨rfl, hU2⟩
            | true =>
              try simp (disch := first | omega | (simp only [ints_length, List.length_replicate, List.length_set, colL_length]; done) | (simp only [ints_length, List.length_replicate, List.length_set, colL_length]; omega)) only [Sall,evalOp,init,binE,binI,unE,convE,okNil,builtE,gv,TD.isAgg,resV,↓reduceIte,Nat.reduceEqDiff,reduceCtorEq,Nat.reduceAdd,Nat.reduceMul,Nat.reduceLeDiff,quietOp,blindOp,Int.reduceEq,Int.reduceLT,Int.reduceLE,Nat.reduceLT,ti2,ti3,ti4,ti79,ti80,ti28,ti25,ti31,ti22,ti33,ti24,ti67,ti111,ti100, Bool.not_true, h10, h9, h0, h1, w64]
              refine ⟨b - (a + 1), by omega, a + 1, rfl, by omega, rfl, hU2, fun i hi => ?_⟩
              by_cases e : i = a
              · rw [e]; unfold latAt; rw [ho1, ho2]; rfl
              · exact hall i (by omega)
    · try simp (disch := first | omega | (simp only [ints_length, List.length_replicate, List.length_set, colL_length]; done) | (simp only [ints_length, List.length_replicate, List.length_set, colL_length]; omega)) only [Sall,evalOp,init,binE,binI,unE,convE,okNil,builtE,gv,TD.isAgg,resV,↓reduceIte,Nat.reduceEqDiff,reduceCtorEq,Nat.reduceAdd,Nat.reduceMul,Nat.reduceLeDiff,quietOp,blindOp,Int.reduceEq,Int.reduceLT,Int.reduceLE,Nat.reduceLT,ti2,ti3,ti4,ti79,ti80,ti28,ti25,ti31,ti22,ti33,ti24,ti67,ti111,ti100, true_and]
      unfold latB
      rw [all_true_of fun i hi => hall i (by omega)]
      exact ⟨rfl, hup⟩
theorem l09Square_c (m : Nat) (x : Value) (ll : List (List Int)) (H : AH) (hx : Rd2 1 H x ll) (hl : ll.length = m) (hm : m ≤ 14) (hin : ∀ i, i < m → (ll.getD i []).length = m ∧ ∀ j, j < m → 0 ≤ (ll.getD i []).getD j 0 ∧ (ll.getD i []).getD j 0 < m) :
    ACalls Try.prog 96 [.int .i64 m, x] H (is (.bool (latB m ll)) H) := by
  refine acalls_up rfl (ACalls.wf (by kernel_rfl) fun hs => acalls_of_awp [.tmp 4] Try.func96 (by kernel_rfl) rfl rfl (Nat.le_of_ble_eq_true rfl) (by kernel_rfl) ?_)
  try simp (disch := first | omega | (simp only [ints_length, List.length_replicate, List.length_set, colL_length]; done) | (simp only [ints_length, List.length_replicate, List.length_set, colL_length]; omega)) only [Sall,evalOp,init,binE,binI,unE,convE,okNil,builtE,gv,TD.isAgg,resV,↓reduceIte,Nat.reduceEqDiff,reduceCtorEq,Nat.reduceAdd,Nat.reduceMul,Nat.reduceLeDiff,quietOp,blindOp,Int.reduceEq,Int.reduceLT,Int.reduceLE,Nat.reduceLT,ti2,ti3,ti4,ti79,ti80,ti28,ti25,ti31,ti22,ti33,ti24,ti67,ti111,ti100, true_and]
  refine awp_loop (fun z t H' => ∃ a : Nat, z = m - a ∧ a ≤ m ∧ t 5 = .int .i64 a ∧ t 0 = .int .i64 m ∧ t 1 = x ∧ Up H.next H H' ∧ (∀ i, i < a → latAt m ll i = true)) m ?_ ?_
  · refine ⟨0, by omega, by omega, ?_⟩
    try simp (disch := first | omega | (simp only [ints_length, List.length_replicate, List.length_set, colL_length]; done) | (simp only [ints_length, List.length_replicate, List.length_set, colL_length]; omega)) only [Sall,evalOp,init,binE,binI,unE,convE,okNil,builtE,gv,TD.isAgg,resV,↓reduceIte,Nat.reduceEqDiff,reduceCtorEq,Nat.reduceAdd,Nat.reduceMul,Nat.reduceLeDiff,quietOp,blindOp,Int.reduceEq,Int.reduceLT,Int.reduceLE,Nat.reduceLT,ti2,ti3,ti4,ti79,ti80,ti28,ti25,ti31,ti22,ti33,ti24,ti67,ti111,ti100, Int.natCast_zero, Nat.not_lt_zero, false_implies]
    exact Up.refl _ _
  · rintro z t H' ⟨a, hz, ha, h5, h0, h1, hup, hall⟩
    have hup1 := hup.next
    try simp (disch := first | omega | (simp only [ints_length, List.length_replicate, List.length_set, colL_length]; done) | (simp only [ints_length, List.length_replicate, List.length_set, colL_length]; omega)) only [Sall,evalOp,init,binE,binI,unE,convE,okNil,builtE,gv,TD.isAgg,resV,↓reduceIte,Nat.reduceEqDiff,reduceCtorEq,Nat.reduceAdd,Nat.reduceMul,Nat.reduceLeDiff,quietOp,blindOp,Int.reduceEq,Int.reduceLT,Int.reduceLE,Nat.reduceLT,ti2,ti3,ti4,ti79,ti80,ti28,ti25,ti31,ti22,ti33,ti24,ti67,ti111,ti100, h5, h0]
    refine condC_dec (fun h => ?_) (fun h => ?_)
    · have hx' := hx.same (hup.le hs).row
      try simp (disch := first | omega | (simp only [ints_length, List.length_replicate, List.length_set, colL_length]; done) | (simp only [ints_length, List.length_replicate, List.length_set, colL_length]; omega)) only [Sall,evalOp,init,binE,binI,unE,convE,okNil,builtE,gv,TD.isAgg,resV,↓reduceIte,Nat.reduceEqDiff,reduceCtorEq,Nat.reduceAdd,Nat.reduceMul,Nat.reduceLeDiff,quietOp,blindOp,Int.reduceEq,Int.reduceLT,Int.reduceLE,Nat.reduceLT,ti2,ti3,ti4,ti79,ti80,ti28,ti25,ti31,ti22,ti33,ti24,ti67,ti111,ti100, h5, h0, h1, zeros_zero]
      refine awp_loop (fun z t H2 => ∃ (b : Nat) (w : Value) (lo hi : Nat), z = m - b ∧ b ≤ m ∧ t 7 = .int .i64 b ∧ t 6 = w ∧ t 5 = .int .i64 a ∧ t 0 = .int .i64 m ∧ t 1 = x ∧ Up H'.next H' H2 ∧ H'.next ≤ lo ∧ lo ≤ hi ∧ hi ≤ H2.next ∧ Fr 1 2 lo hi H2 w b (colL ll a b)) m ?_ ?_
      · refine ⟨0, .slice (some ⟨H'.next, 0, some 1⟩) 0 0, H'.next, H'.next + 1, by omega, by omega, ?_⟩
        try simp (disch := first | omega | (simp only [ints_length, List.length_replicate, List.length_set, colL_length]; done) | (simp only [ints_length, List.length_replicate, List.length_set, colL_length]; omega)) only [Sall,evalOp,init,binE,binI,unE,convE,okNil,builtE,gv,TD.isAgg,resV,↓reduceIte,Nat.reduceEqDiff,reduceCtorEq,Nat.reduceAdd,Nat.reduceMul,Nat.reduceLeDiff,quietOp,blindOp,Int.reduceEq,Int.reduceLT,Int.reduceLE,Nat.reduceLT,ti2,ti3,ti4,ti79,ti80,ti28,ti25,ti31,ti22,ti33,ti24,ti67,ti111,ti100, Int.natCast_zero, h5, h0, h1]
        refine ⟨(Up.refl _ H').push (by omega) _, ?_⟩
        (repeat refine And.intro (by omega) ?_)
        exact ⟨by simp [colL], .inr ⟨H'.next, Nat.le_refl _, Nat.lt_succ_self _, rfl, by rw [AH.push_row, if_pos rfl]; rfl⟩⟩
      · rintro z t H2 ⟨b, w, lo, hi, hz, hb, h7, h6, h5, h0, h1, hup2, hlo, hlh, hhi, hw⟩
        have hup21 := hup2.next
        have hU2 : Up H.next H H2 := hup.trans hup2 (by omega)
        have hx2 := hx.same (hU2.le hs).row
        try simp (disch := first | omega | (simp only [ints_length, List.length_replicate, List.length_set, colL_length]; done) | (simp only [ints_length, List.length_replicate, List.length_set, colL_length]; omega)) only [Sall,evalOp,init,binE,binI,unE,convE,okNil,builtE,gv,TD.isAgg,resV,↓reduceIte,Nat.reduceEqDiff,reduceCtorEq,Nat.reduceAdd,Nat.reduceMul,Nat.reduceLeDiff,quietOp,blindOp,Int.reduceEq,Int.reduceLT,Int.reduceLE,Nat.reduceLT,ti2,ti3,ti4,ti79,ti80,ti28,ti25,ti31,ti22,ti33,ti24,ti67,ti111,ti100, h7, h0]
        refine condC_dec (fun hh => ?_) (fun hh => ?_)
        · obtain ⟨i, o, u, c, r, y, my, rfl, hr, hy, hsx, hok⟩ := hx2.get (j := b) (by omega)
          have hmm := hsx.lenK1
          have hlb := (hin b (by omega)).1
          rw [hmm, hlb] at hsx
          have hsl := hsx.len
          obtain ⟨i7, o7, u7, c7, r7, rfl, hr7, hc7, hs7, hg7⟩ := hsx.get (by omega)
          have g1 := hs7 a (by omega)
          have zz : zeros 1 [.int .i64 0] = [.int .i64 0] := rfl
          try simp (disch := first | omega | (simp only [ints_length, List.length_replicate, List.length_set, colL_length]; done) | (simp only [ints_length, List.length_replicate, List.length_set, colL_length]; omega)) only [Sall,evalOp,init,binE,binI,unE,convE,okNil,builtE,gv,TD.isAgg,resV,↓reduceIte,Nat.reduceEqDiff,reduceCtorEq,Nat.reduceAdd,Nat.reduceMul,Nat.reduceLeDiff,quietOp,blindOp,Int.reduceEq,Int.reduceLT,Int.reduceLE,Nat.reduceLT,ti2,ti3,ti4,ti79,ti80,ti28,ti25,ti31,ti22,ti33,ti24,ti67,ti111,ti100, h7, h6, h5, h0, h1, hr, hy, hok, hr7, g1, zz, slCells]
          (repeat refine And.intro (by omega) ?_)
          obtain ⟨H4, e4⟩ : ∃ H4, H4 = H2.push ⟨2, true, [.int .i64 ((ll.getD b []).getD a 0)]⟩ := ⟨_, rfl⟩
          have n4 : H4.next = H2.next + 1 := by rw [e4]; rfl
          have s4 : ∀ i, i < H2.next → H4.row i = H2.row i := fun i hi => by rw [e4, AH.push_row, if_neg (by omega)]
          rw [← e4]
          clear e4
          refine appE_fr (k := 1) (lo := lo) (hi := hi) (l := colL ll a b) (m := [(ll.getD b []).getD a 0]) (hw.same fun i _ hi => s4 i (by omega)) rfl (by omega) rfl (by omega) (by decide) (by omega) (by omega) ?_
          intro v' H5 n5 s5 f5
          try simp (disch := first | omega | (simp only [ints_length, List.length_replicate, List.length_set, colL_length]; done) | (simp only [ints_length, List.length_replicate, List.length_set, colL_length]; omega)) only [Sall,evalOp,init,binE,binI,unE,convE,okNil,builtE,gv,TD.isAgg,resV,↓reduceIte,Nat.reduceEqDiff,reduceCtorEq,Nat.reduceAdd,Nat.reduceMul,Nat.reduceLeDiff,quietOp,blindOp,Int.reduceEq,Int.reduceLT,Int.reduceLE,Nat.reduceLT,ti2,ti3,ti4,ti79,ti80,ti28,ti25,ti31,ti22,ti33,ti24,ti67,ti111,ti100, h7, h5, h0, h1, w64]
          refine ⟨m - (b + 1), by omega, b + 1, v', H4.next, H4.next + 1, rfl, by omega, rfl, rfl, ⟨by omega, fun i hi => by rw [s5 i (by omega) (by omega), s4 i (by omega), hup2.row i hi]⟩, by omega, by omega, by omega, ?_⟩
          rw [colL_succ]; exact f5
        · have hb2 : b = m := by omega
          subst hb2
          obtain ⟨i, o, u, c, r, y, my, rfl, hr, hy, hsx, hok⟩ := hx2.get (j := a) (by omega)
          have hmm := hsx.lenK1
          rw [hmm] at hsx
          have hla := (hin a (by omega)).1
          try simp (disch := first | omega | (simp only [ints_length, List.length_replicate, List.length_set, colL_length]; done) | (simp only [ints_length, List.length_replicate, List.length_set, colL_length]; omega)) only [Sall,evalOp,init,binE,binI,unE,convE,okNil,builtE,gv,TD.isAgg,resV,↓reduceIte,Nat.reduceEqDiff,reduceCtorEq,Nat.reduceAdd,Nat.reduceMul,Nat.reduceLeDiff,quietOp,blindOp,Int.reduceEq,Int.reduceLT,Int.reduceLE,Nat.reduceLT,ti2,ti3,ti4,ti79,ti80,ti28,ti25,ti31,ti22,ti33,ti24,ti67,ti111,ti100, h6, h5, h0, h1, hr, hy, hok]
          (repeat refine And.intro (by omega) ?_)
          refine (l01Order_c b (by omega) y _ H2 hsx (by omega)).to ?_
          cases ho1 : ordB b (ll.getD a []) with
          | false =>
            try simp (disch := first | omega | (simp only [ints_length, List.length_replicate, List.length_set, colL_length]; done) | (simp only [ints_length, List.length_replicate, List.length_set, colL_length]; omega)) only [Sall,evalOp,init,binE,binI,unE,convE,okNil,builtE,gv,TD.isAgg,resV,↓reduceIte,Nat.reduceEqDiff,reduceCtorEq,Nat.reduceAdd,Nat.reduceMul,Nat.reduceLeDiff,quietOp,blindOp,Int.reduceEq,Int.reduceLT,Int.reduceLE,Nat.reduceLT,ti2,ti3,ti4,ti79,ti80,ti28,ti25,ti31,ti22,ti33,ti24,ti67,ti111,ti100, Bool.not_false]
            unfold latB
            rw [all_false_of (i := a) (by omega) (by unfold latAt; rw [ho1, Bool.false_and])]
            exact ⟨rfl, hU2⟩
          | true =>
            have hcl := colL_length ll a b
            have hw3 : Rd 1 H2 w (colL ll a b).length (colL ll a b) := by rw [hcl]; exact hw.rd
            try simp (disch := first | omega | (simp only [ints_length, List.length_replicate, List.length_set, colL_length]; done) | (simp only [ints_length, List.length_replicate, List.length_set, colL_length]; omega)) only [Sall,evalOp,init,binE,binI,unE,convE,okNil,builtE,gv,TD.isAgg,resV,↓reduceIte,Nat.reduceEqDiff,reduceCtorEq,Nat.reduceAdd,Nat.reduceMul,Nat.reduceLeDiff,quietOp,blindOp,Int.reduceEq,Int.reduceLT,Int.reduceLE,Nat.reduceLT,ti2,ti3,ti4,ti79,ti80,ti28,ti25,ti31,ti22,ti33,ti24,ti67,ti111,ti100, Bool.not_true, h6, h5, h0, h1]
            refine (l01Order_c b (by omega) w _ H2 hw3 (by omega)).to ?_
            cases ho2 : ordB b (colL ll a b) with
            | false =>
              try simp (disch := first | omega | (simp only [ints_length, List.length_replicate, List.length_set, colL_length]; done) | (simp only [ints_length, List.length_replicate, List.length_set, colL_length]; omega)) only [Sall,evalOp,init,binE,binI,unE,convE,okNil,builtE,gv,TD.isAgg,resV,↓reduceIte,Nat.reduceEqDiff,reduceCtorEq,Nat.reduceAdd,Nat.reduceMul,Nat.reduceLeDiff,quietOp,blindOp,Int.reduceEq,Int.reduceLT,Int.reduceLE,Nat.reduceLT,ti2,ti3,ti4,ti79,ti80,ti28,ti25,ti31,ti22,ti33,ti24,ti67,ti111,ti100, Bool.not_false]
              unfold latB
              rw [all_false_of (i := a) (by omega) (by unfold latAt; rw [ho2, Bool.and_false])]
              exact ⟨rfl, hU2⟩
            | true =>
              try simp (disch := first | omega | (simp only [ints_length, List.length_replicate, List.length_set, colL_length]; done) | (simp only [ints_length, List.length_replicate, List.length_set, colL_length]; omega)) only [Sall,evalOp,init,binE,binI,unE,convE,okNil,builtE,gv,TD.isAgg,resV,↓reduceIte,Nat.reduceEqDiff,reduceCtorEq,Nat.reduceAdd,Nat.reduceMul,Nat.reduceLeDiff,quietOp,blindOp,Int.reduceEq,Int.reduceLT,Int.reduceLE,Nat.reduceLT,ti2,ti3,ti4,ti79,ti80,ti28,ti25,ti31,ti22,ti33,ti24,ti67,ti111,ti100, Bool.not_true, h5, h0, h1, w64]
              refine ⟨b - (a + 1), by omega, a + 1, rfl, by omega, rfl, hU2, fun i hi => ?_⟩
              by_cases e : i = a
              · rw [e]; unfold latAt; rw [ho1, ho2]; rfl
              · exact hall i (by omega)
    · try simp (disch := first | omega | (simp only [ints_length, List.length_replicate, List.length_set, colL_length]; done) | (simp only [ints_length, List.length_replicate, List.length_set, colL_length]; omega)) only [Sall,evalOp,init,binE,binI,unE,convE,okNil,builtE,gv,TD.isAgg,resV,↓reduceIte,Nat.reduceEqDiff,reduceCtorEq,Nat.reduceAdd,Nat.reduceMul,Nat.reduceLeDiff,quietOp,blindOp,Int.reduceEq,Int.reduceLT,Int.reduceLE,Nat.reduceLT,ti2,ti3,ti4,ti79,ti80,ti28,ti25,ti31,ti22,ti33,ti24,ti67,ti111,ti100, true_and]
      unfold latB
      rw [all_true_of fun i hi => hall i (by omega)]
      exact ⟨rfl, hup⟩

theorem specIsSquareOf_c (n : Int) (x : Value) (ll : List (List Int)) (H : AH) (hn : -9223372036854775808 ≤ n ∧ n ≤ 9223372036854775807) (hx : Rd2 1 H x ll) (hl : ll.length ≤ 4294967296) (hl2 : ∀ r ∈ ll, r.length ≤ 4294967296) :
    ACalls Try.prog 44 [.int .i64 n, x] H (is (.tuple #[.bool (sqoB n ll), .int .i64 (sqoC n ll)]) H) := by
  refine acalls_of_awp [.tmp 4, .tmp 5] Try.func44 (by kernel_rfl) rfl rfl (Nat.le_of_ble_eq_true rfl) (by kernel_rfl) ?_
  try simp (disch := first | omega | (simp only [ints_length, List.length_replicate, List.length_set, colL_length]; done) | (simp only [ints_length, List.length_replicate, List.length_set, colL_length]; omega)) only [Sall,evalOp,init,binE,binI,unE,convE,okNil,builtE,gv,TD.isAgg,resV,↓reduceIte,Nat.reduceEqDiff,reduceCtorEq,Nat.reduceAdd,Nat.reduceMul,Nat.reduceLeDiff,quietOp,blindOp,Int.reduceEq,Int.reduceLT,Int.reduceLE,Nat.reduceLT,ti2,ti3,ti4,ti79,ti80,ti28,ti25,ti31,ti22,ti33,ti24,ti67,ti111,ti100, true_and]
  refine (l09Rows_c n x ll H hx hl hl2).to ?_
  unfold sqoC sqoB
  cases hb : haveB n ll with
  | true =>
    obtain ⟨m, rfl, h1, h2, h3, h4⟩ := haveB_at hb
    try simp (disch := first | omega | (simp only [ints_length, List.length_replicate, List.length_set, colL_length]; done) | (simp only [ints_length, List.length_replicate, List.length_set, colL_length]; omega)) only [Sall,evalOp,init,binE,binI,unE,convE,okNil,builtE,gv,TD.isAgg,resV,↓reduceIte,Nat.reduceEqDiff,reduceCtorEq,Nat.reduceAdd,Nat.reduceMul,Nat.reduceLeDiff,quietOp,blindOp,Int.reduceEq,Int.reduceLT,Int.reduceLE,Nat.reduceLT,ti2,ti3,ti4,ti79,ti80,ti28,ti25,ti31,ti22,ti33,ti24,ti67,ti111,ti100, bne_self_eq_false]
    refine (l09Square_c m x ll H hx h3 h2 h4).to ?_
    try simp (disch := first | omega | (simp only [ints_length, List.length_replicate, List.length_set, colL_length]; done) | (simp only [ints_length, List.length_replicate, List.length_set, colL_length]; omega)) only [Sall,evalOp,init,binE,binI,unE,convE,okNil,builtE,gv,TD.isAgg,resV,↓reduceIte,Nat.reduceEqDiff,reduceCtorEq,Nat.reduceAdd,Nat.reduceMul,Nat.reduceLeDiff,quietOp,blindOp,Int.reduceEq,Int.reduceLT,Int.reduceLE,Nat.reduceLT,ti2,ti3,ti4,ti79,ti80,ti28,ti25,ti31,ti22,ti33,ti24,ti67,ti111,ti100, is, Bool.true_and, Int.toNat_natCast]
  | false =>
    have e : ((2 : Int) != 0) = true := by decide
    try simp (disch := first | omega | (simp only [ints_length, List.length_replicate, List.length_set, colL_length]; done) | (simp only [ints_length, List.length_replicate, List.length_set, colL_length]; omega)) only [Sall,evalOp,init,binE,binI,unE,convE,okNil,builtE,gv,TD.isAgg,resV,↓reduceIte,Nat.reduceEqDiff,reduceCtorEq,Nat.reduceAdd,Nat.reduceMul,Nat.reduceLeDiff,quietOp,blindOp,Int.reduceEq,Int.reduceLT,Int.reduceLE,Nat.reduceLT,ti2,ti3,ti4,ti79,ti80,ti28,ti25,ti31,ti22,ti33,ti24,ti67,ti111,ti100, e, is, Bool.false_and]

theorem IsSquareOf_c (n : Int) (x : Value) (ll : List (List Int)) (H : AH) (hn : -9223372036854775808 ≤ n ∧ n ≤ 9223372036854775807) (hx : Rd2 1 H x ll) (hl : ll.length ≤ 4294967296) (hl2 : ∀ r ∈ ll, r.length ≤ 4294967296) :
    ACalls Try.prog 45 [.int .i64 n, x] H (is (.tuple #[.bool (sqoB n ll), .int .i64 (sqoC n ll)]) H) := by
  refine acalls_of_awp [.tmp 4, .tmp 5] Try.func45 (by kernel_rfl) rfl rfl (Nat.le_of_ble_eq_true rfl) (by kernel_rfl) ?_
  try simp (disch := first | omega | (simp only [ints_length, List.length_replicate, List.length_set, colL_length]; done) | (simp only [ints_length, List.length_replicate, List.length_set, colL_length]; omega)) only [Sall,evalOp,init,binE,binI,unE,convE,okNil,builtE,gv,TD.isAgg,resV,↓reduceIte,Nat.reduceEqDiff,reduceCtorEq,Nat.reduceAdd,Nat.reduceMul,Nat.reduceLeDiff,quietOp,blindOp,Int.reduceEq,Int.reduceLT,Int.reduceLE,Nat.reduceLT,ti2,ti3,ti4,ti79,ti80,ti28,ti25,ti31,ti22,ti33,ti24,ti67,ti111,ti100, true_and]
  refine (haveSquare_c n x ll H hx hl hl2).to ?_
  unfold sqoC sqoB
  cases hb : haveB n ll with
  | true =>
    obtain ⟨m, rfl, h1, h2, h3, h4⟩ := haveB_at hb
    try simp (disch := first | omega | (simp only [ints_length, List.length_replicate, List.length_set, colL_length]; done) | (simp only [ints_length, List.length_replicate, List.length_set, colL_length]; omega)) only [Sall,evalOp,init,binE,binI,unE,convE,okNil,builtE,gv,TD.isAgg,resV,↓reduceIte,Nat.reduceEqDiff,reduceCtorEq,Nat.reduceAdd,Nat.reduceMul,Nat.reduceLeDiff,quietOp,blindOp,Int.reduceEq,Int.reduceLT,Int.reduceLE,Nat.reduceLT,ti2,ti3,ti4,ti79,ti80,ti28,ti25,ti31,ti22,ti33,ti24,ti67,ti111,ti100, Bool.not_true]
    refine (isLatin_c m x ll H hx h3 h2 h4).to ?_
    try simp (disch := first | omega | (simp only [ints_length, List.length_replicate, List.length_set, colL_length]; done) | (simp only [ints_length, List.length_replicate, List.length_set, colL_length]; omega)) only [Sall,evalOp,init,binE,binI,unE,convE,okNil,builtE,gv,TD.isAgg,resV,↓reduceIte,Nat.reduceEqDiff,reduceCtorEq,Nat.reduceAdd,Nat.reduceMul,Nat.reduceLeDiff,quietOp,blindOp,Int.reduceEq,Int.reduceLT,Int.reduceLE,Nat.reduceLT,ti2,ti3,ti4,ti79,ti80,ti28,ti25,ti31,ti22,ti33,ti24,ti67,ti111,ti100, is, Bool.true_and, Int.toNat_natCast]
  | false =>
    try simp (disch := first | omega | (simp only [ints_length, List.length_replicate, List.length_set, colL_length]; done) | (simp only [ints_length, List.length_replicate, List.length_set, colL_length]; omega)) only [Sall,evalOp,init,binE,binI,unE,convE,okNil,builtE,gv,TD.isAgg,resV,↓reduceIte,Nat.reduceEqDiff,reduceCtorEq,Nat.reduceAdd,Nat.reduceMul,Nat.reduceLeDiff,quietOp,blindOp,Int.reduceEq,Int.reduceLT,Int.reduceLE,Nat.reduceLT,ti2,ti3,ti4,ti79,ti80,ti28,ti25,ti31,ti22,ti33,ti24,ti67,ti111,ti100, Bool.not_false, is, Bool.false_and]
end Go.Proofs.Ytbmpkihggipciaa.A
