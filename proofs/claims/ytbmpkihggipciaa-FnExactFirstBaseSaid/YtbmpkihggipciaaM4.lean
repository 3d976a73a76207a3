/- Contracts: squares with each number once in a row and in a column, on both sides. And what follows. -/
import Derived.Test.YtbmpkihggipciaaM3
import Derived.Lib.SlicesCompact
section
set_option linter.unusedSimpArgs false
set_option linter.unusedVariables false
set_option maxRecDepth 100000
set_option maxHeartbeats 2000000
namespace Go.Proofs.Ytbmpkihggipciaa.A
open Go Go.Abs Go.RowKit

theorem indexFuncLL_c (g : FuncId) (cap : List Value) (p : List Int → Bool) (x : Value) (ll : List (List Int)) (H : AH) (hx : Rd2 1 H x ll) (hl : ll.length ≤ 4294967296)
    (hp : ∀ (y : Value) (r : List Int), r ∈ ll → Rd 1 H y r.length r → ACalls Try.prog g (y :: cap) H (is (.bool (p r)) H)) :
    ACalls Try.prog 175 [x, .func (.func g) #[] cap.toArray] H (is (.int .i64 (firstI (fun i => p (ll.getD i [])) ll.length)) H) := by
  refine acalls_of_awp [.tmp 4] Try.func175 (by kernel_rfl) rfl rfl (Nat.le_of_ble_eq_true rfl) (by kernel_rfl) ?_
  try simp (disch := first | omega | (simp only [ints_length, List.length_replicate, List.length_set, colL_length]; done) | (simp only [ints_length, List.length_replicate, List.length_set, colL_length]; omega)) only [Sall,evalOp,init,binE,binI,unE,convE,okNil,builtE,gv,TD.isAgg,resV,↓reduceIte,Nat.reduceEqDiff,reduceCtorEq,Nat.reduceAdd,Nat.reduceMul,Nat.reduceLeDiff,quietOp,blindOp,Int.reduceEq,Int.reduceLT,Int.reduceLE,Nat.reduceLT,ti2,ti3,ti4,ti79,ti80,ti28,ti25,ti31,ti22,ti33,ti24,ti67,ti111,ti145,ti136,ti137,ti117,ti100, builtE, hx.len]
  refine awp_loop (fun m t H' => ∃ a : Nat, m = ll.length - a ∧ a ≤ ll.length ∧ t 8 = .int .i64 a ∧ t 7 = .int .i64 ll.length ∧ t 0 = x ∧ t 1 = .func (.func g) #[] cap.toArray ∧ H' = H ∧ (∀ i, i < a → p (ll.getD i []) = false)) ll.length ?_ ?_
  · refine ⟨0, by omega, by omega, ?_⟩
    try simp (disch := first | omega | (simp only [ints_length, List.length_replicate, List.length_set, colL_length]; done) | (simp only [ints_length, List.length_replicate, List.length_set, colL_length]; omega)) only [Sall,evalOp,init,binE,binI,unE,convE,okNil,builtE,gv,TD.isAgg,resV,↓reduceIte,Nat.reduceEqDiff,reduceCtorEq,Nat.reduceAdd,Nat.reduceMul,Nat.reduceLeDiff,quietOp,blindOp,Int.reduceEq,Int.reduceLT,Int.reduceLE,Nat.reduceLT,ti2,ti3,ti4,ti79,ti80,ti28,ti25,ti31,ti22,ti33,ti24,ti67,ti111,ti145,ti136,ti137,ti117,ti100, Int.natCast_zero, Nat.not_lt_zero, false_implies]
  · rintro m t H' ⟨a, hm, h14, h8, h7, h0, h1, rfl, hall⟩
    try simp (disch := first | omega | (simp only [ints_length, List.length_replicate, List.length_set, colL_length]; done) | (simp only [ints_length, List.length_replicate, List.length_set, colL_length]; omega)) only [Sall,evalOp,init,binE,binI,unE,convE,okNil,builtE,gv,TD.isAgg,resV,↓reduceIte,Nat.reduceEqDiff,reduceCtorEq,Nat.reduceAdd,Nat.reduceMul,Nat.reduceLeDiff,quietOp,blindOp,Int.reduceEq,Int.reduceLT,Int.reduceLE,Nat.reduceLT,ti2,ti3,ti4,ti79,ti80,ti28,ti25,ti31,ti22,ti33,ti24,ti67,ti111,ti145,ti136,ti137,ti117,ti100, h8, h7]
    refine condC_dec (fun h => ?_) (fun h => ?_)
    · obtain ⟨i, o, u, c, r, y, my, rfl, hr, hy, hsx, hok⟩ := hx.get (j := a) (by omega)
      have hmm := hsx.lenK1
      rw [hmm] at hsx
      try simp (disch := first | omega | (simp only [ints_length, List.length_replicate, List.length_set, colL_length]; done) | (simp only [ints_length, List.length_replicate, List.length_set, colL_length]; omega)) only [Sall,evalOp,init,binE,binI,unE,convE,okNil,builtE,gv,TD.isAgg,resV,↓reduceIte,Nat.reduceEqDiff,reduceCtorEq,Nat.reduceAdd,Nat.reduceMul,Nat.reduceLeDiff,quietOp,blindOp,Int.reduceEq,Int.reduceLT,Int.reduceLE,Nat.reduceLT,ti2,ti3,ti4,ti79,ti80,ti28,ti25,ti31,ti22,ti33,ti24,ti67,ti111,ti145,ti136,ti137,ti117,ti100, h8, h7, h0, h1, hr, hy, hok]
      (repeat refine And.intro (by omega) ?_)
      refine (hp y _ (getD_mem (ll := ll) (a := a) (by omega)) hsx).to ?_
      cases hb : p (ll.getD a []) with
      | true =>
        try simp (disch := first | omega | (simp only [ints_length, List.length_replicate, List.length_set, colL_length]; done) | (simp only [ints_length, List.length_replicate, List.length_set, colL_length]; omega)) only [Sall,evalOp,init,binE,binI,unE,convE,okNil,builtE,gv,TD.isAgg,resV,↓reduceIte,Nat.reduceEqDiff,reduceCtorEq,Nat.reduceAdd,Nat.reduceMul,Nat.reduceLeDiff,quietOp,blindOp,Int.reduceEq,Int.reduceLT,Int.reduceLE,Nat.reduceLT,ti2,ti3,ti4,ti79,ti80,ti28,ti25,ti31,ti22,ti33,ti24,ti67,ti111,ti145,ti136,ti137,ti117,ti100, h8, h7, h0, h1, is]
        rw [firstI_at (p := fun i => p (ll.getD i [])) (by omega) hb hall]
      | false =>
        try simp (disch := first | omega | (simp only [ints_length, List.length_replicate, List.length_set, colL_length]; done) | (simp only [ints_length, List.length_replicate, List.length_set, colL_length]; omega)) only [Sall,evalOp,init,binE,binI,unE,convE,okNil,builtE,gv,TD.isAgg,resV,↓reduceIte,Nat.reduceEqDiff,reduceCtorEq,Nat.reduceAdd,Nat.reduceMul,Nat.reduceLeDiff,quietOp,blindOp,Int.reduceEq,Int.reduceLT,Int.reduceLE,Nat.reduceLT,ti2,ti3,ti4,ti79,ti80,ti28,ti25,ti31,ti22,ti33,ti24,ti67,ti111,ti145,ti136,ti137,ti117,ti100, h8, h7, h0, h1, w64]
        refine ⟨ll.length - (a + 1), by omega, a + 1, rfl, by omega, by omega, fun x hx => ?_⟩
        by_cases e : x = a
        · rw [e]; exact hb
        · exact hall x (by omega)
    · try simp (disch := first | omega | (simp only [ints_length, List.length_replicate, List.length_set, colL_length]; done) | (simp only [ints_length, List.length_replicate, List.length_set, colL_length]; omega)) only [Sall,evalOp,init,binE,binI,unE,convE,okNil,builtE,gv,TD.isAgg,resV,↓reduceIte,Nat.reduceEqDiff,reduceCtorEq,Nat.reduceAdd,Nat.reduceMul,Nat.reduceLeDiff,quietOp,blindOp,Int.reduceEq,Int.reduceLT,Int.reduceLE,Nat.reduceLT,ti2,ti3,ti4,ti79,ti80,ti28,ti25,ti31,ti22,ti33,ti24,ti67,ti111,ti145,ti136,ti137,ti117,ti100, is]
      rw [firstI_none (p := fun i => p (ll.getD i [])) fun x hx => hall x (by omega)]

theorem containsFuncLL_c (g : FuncId) (cap : List Value) (p : List Int → Bool) (x : Value) (ll : List (List Int)) (H : AH) (hx : Rd2 1 H x ll) (hl : ll.length ≤ 4294967296)
    (hp : ∀ (y : Value) (r : List Int), r ∈ ll → Rd 1 H y r.length r → ACalls Try.prog g (y :: cap) H (is (.bool (p r)) H)) :
    ACalls Try.prog 148 [x, .func (.func g) #[] cap.toArray] H (is (.bool ((List.range ll.length).any fun i => p (ll.getD i []))) H) := by
  refine acalls_of_awp [.tmp 4] Try.func148 (by kernel_rfl) rfl rfl (Nat.le_of_ble_eq_true rfl) (by kernel_rfl) ?_
  try simp (disch := first | omega | (simp only [ints_length, List.length_replicate, List.length_set, colL_length]; done) | (simp only [ints_length, List.length_replicate, List.length_set, colL_length]; omega)) only [Sall,evalOp,init,binE,binI,unE,convE,okNil,builtE,gv,TD.isAgg,resV,↓reduceIte,Nat.reduceEqDiff,reduceCtorEq,Nat.reduceAdd,Nat.reduceMul,Nat.reduceLeDiff,quietOp,blindOp,Int.reduceEq,Int.reduceLT,Int.reduceLE,Nat.reduceLT,ti2,ti3,ti4,ti79,ti80,ti28,ti25,ti31,ti22,ti33,ti24,ti67,ti111,ti145,ti136,ti137,ti117,ti100, true_and]
  refine (indexFuncLL_c g cap p x ll H hx hl hp).to ?_
  try simp (disch := first | omega | (simp only [ints_length, List.length_replicate, List.length_set, colL_length]; done) | (simp only [ints_length, List.length_replicate, List.length_set, colL_length]; omega)) only [Sall,evalOp,init,binE,binI,unE,convE,okNil,builtE,gv,TD.isAgg,resV,↓reduceIte,Nat.reduceEqDiff,reduceCtorEq,Nat.reduceAdd,Nat.reduceMul,Nat.reduceLeDiff,quietOp,blindOp,Int.reduceEq,Int.reduceLT,Int.reduceLE,Nat.reduceLT,ti2,ti3,ti4,ti79,ti80,ti28,ti25,ti31,ti22,ti33,ti24,ti67,ti111,ti145,ti136,ti137,ti117,ti100, is, firstI_any]

theorem any_not_all (n : Nat) (p : Nat → Bool) : ((List.range n).any fun i => !p i) = !((List.range n).all p) := by
  rw [List.any_eq_not_all_not]
  simp

theorem haveSquare11_c (n : Int) (b : Nat) (x : Int) (H : AH) (hb : H.row b = some ⟨2, true, [.int .i64 n]⟩) (hn : 1 ≤ n ∧ n ≤ 14) :
    ACalls Try.prog 151 [.int .i64 x, .pointer (some ⟨b, 0, none⟩)] H (is (.bool (!decide (0 ≤ x ∧ x ≤ n - 1))) H) := by
  refine acalls_of_awp [.tmp 3] Try.func151 (by kernel_rfl) rfl rfl (Nat.le_of_ble_eq_true rfl) (by kernel_rfl) ?_
  try simp (disch := first | omega | (simp only [ints_length, List.length_replicate, List.length_set, colL_length]; done) | (simp only [ints_length, List.length_replicate, List.length_set, colL_length]; omega)) only [Sall,evalOp,init,binE,binI,unE,convE,okNil,builtE,gv,TD.isAgg,resV,↓reduceIte,Nat.reduceEqDiff,reduceCtorEq,Nat.reduceAdd,Nat.reduceMul,Nat.reduceLeDiff,quietOp,blindOp,Int.reduceEq,Int.reduceLT,Int.reduceLE,Nat.reduceLT,ti2,ti3,ti4,ti79,ti80,ti28,ti25,ti31,ti22,ti33,ti24,ti67,ti111,ti145,ti136,ti137,ti117,ti100, hb, w64]
  refine (between_c _ _ _ _).to ?_
  try simp (disch := first | omega | (simp only [ints_length, List.length_replicate, List.length_set, colL_length]; done) | (simp only [ints_length, List.length_replicate, List.length_set, colL_length]; omega)) only [Sall,evalOp,init,binE,binI,unE,convE,okNil,builtE,gv,TD.isAgg,resV,↓reduceIte,Nat.reduceEqDiff,reduceCtorEq,Nat.reduceAdd,Nat.reduceMul,Nat.reduceLeDiff,quietOp,blindOp,Int.reduceEq,Int.reduceLT,Int.reduceLE,Nat.reduceLT,ti2,ti3,ti4,ti79,ti80,ti28,ti25,ti31,ti22,ti33,ti24,ti67,ti111,ti145,ti136,ti137,ti117,ti100, is]

theorem haveSquare1_c (n : Nat) (b : Nat) (y : Value) (r : List Int) (H : AH) (hb : H.row b = some ⟨2, true, [.int .i64 n]⟩) (hn : 1 ≤ n ∧ n ≤ 14) (hv : Rd 1 H y r.length r) (hr : r.length ≤ 4294967296) :
    ACalls Try.prog 149 [y, .pointer (some ⟨b, 0, none⟩)] H (is (.bool (!rowOkB n r)) H) := by
  refine acalls_of_awp [.tmp 3] Try.func149 (by kernel_rfl) rfl rfl (Nat.le_of_ble_eq_true rfl) (by kernel_rfl) ?_
  have hn64 : (n : Int) < 9223372036854775808 := by omega
  try simp (disch := first | omega | (simp only [ints_length, List.length_replicate, List.length_set, colL_length]; done) | (simp only [ints_length, List.length_replicate, List.length_set, colL_length]; omega)) only [Sall,evalOp,init,binE,binI,unE,convE,okNil,builtE,gv,TD.isAgg,resV,↓reduceIte,Nat.reduceEqDiff,reduceCtorEq,Nat.reduceAdd,Nat.reduceMul,Nat.reduceLeDiff,quietOp,blindOp,Int.reduceEq,Int.reduceLT,Int.reduceLE,Nat.reduceLT,ti2,ti3,ti4,ti79,ti80,ti28,ti25,ti31,ti22,ti33,ti24,ti67,ti111,ti145,ti136,ti137,ti117,ti100, true_and]
  refine draw_in [0, 2, 1, 3, 4, 5, 6, 7, 8, 9] (by kernel_rfl) (by kernel_rfl) rfl ?_
  try simp (disch := first | omega | (simp only [ints_length, List.length_replicate, List.length_set, colL_length]; done) | (simp only [ints_length, List.length_replicate, List.length_set, colL_length]; omega)) only [Sall,evalOp,init,binE,binI,unE,convE,okNil,builtE,gv,TD.isAgg,resV,↓reduceIte,Nat.reduceEqDiff,reduceCtorEq,Nat.reduceAdd,Nat.reduceMul,Nat.reduceLeDiff,quietOp,blindOp,Int.reduceEq,Int.reduceLT,Int.reduceLE,Nat.reduceLT,ti2,ti3,ti4,ti79,ti80,ti28,ti25,ti31,ti22,ti33,ti24,ti67,ti111,ti145,ti136,ti137,ti117,ti100, hb]
  refine (size_c y r H hv hr).to ?_
  unfold rowOkB
  by_cases e : r.length = n
  · have e1 : ((r.length : Int) != (n : Int)) = false := by rw [e]; exact bne_self_eq_false _
    rw [decide_eq_true e, Bool.true_and]
    try simp (disch := first | omega | (simp only [ints_length, List.length_replicate, List.length_set, colL_length]; done) | (simp only [ints_length, List.length_replicate, List.length_set, colL_length]; omega)) only [Sall,evalOp,init,binE,binI,unE,convE,okNil,builtE,gv,TD.isAgg,resV,↓reduceIte,Nat.reduceEqDiff,reduceCtorEq,Nat.reduceAdd,Nat.reduceMul,Nat.reduceLeDiff,quietOp,blindOp,Int.reduceEq,Int.reduceLT,Int.reduceLE,Nat.reduceLT,ti2,ti3,ti4,ti79,ti80,ti28,ti25,ti31,ti22,ti33,ti24,ti67,ti111,ti145,ti136,ti137,ti117,ti100, e1, List.mem_cons, List.not_mem_nil, or_false, forall_eq_or_imp, forall_eq, Array.size_empty]
    refine ⟨.inr (.inr (LE.refl _)), (containsFuncI_c 151 [.pointer (some ⟨b, 0, none⟩)] (fun x => !decide (0 ≤ x ∧ x ≤ (n : Int) - 1)) y r.length r H hv hr (fun x => haveSquare11_c n b x H hb (by omega))).to ?_⟩
    rw [any_not_all r.length fun j => decide (0 ≤ r.getD j 0 ∧ r.getD j 0 ≤ (n : Int) - 1)]
    try simp (disch := first | omega | (simp only [ints_length, List.length_replicate, List.length_set, colL_length]; done) | (simp only [ints_length, List.length_replicate, List.length_set, colL_length]; omega)) only [Sall,evalOp,init,binE,binI,unE,convE,okNil,builtE,gv,TD.isAgg,resV,↓reduceIte,Nat.reduceEqDiff,reduceCtorEq,Nat.reduceAdd,Nat.reduceMul,Nat.reduceLeDiff,quietOp,blindOp,Int.reduceEq,Int.reduceLT,Int.reduceLE,Nat.reduceLT,ti2,ti3,ti4,ti79,ti80,ti28,ti25,ti31,ti22,ti33,ti24,ti67,ti111,ti145,ti136,ti137,ti117,ti100, is]
    exact .inr (.inr (LE.refl _))
  · have e1 : ((r.length : Int) != (n : Int)) = true := by rw [bne_iff_ne]; omega
    rw [decide_eq_false e, Bool.false_and]
    try simp (disch := first | omega | (simp only [ints_length, List.length_replicate, List.length_set, colL_length]; done) | (simp only [ints_length, List.length_replicate, List.length_set, colL_length]; omega)) only [Sall,evalOp,init,binE,binI,unE,convE,okNil,builtE,gv,TD.isAgg,resV,↓reduceIte,Nat.reduceEqDiff,reduceCtorEq,Nat.reduceAdd,Nat.reduceMul,Nat.reduceLeDiff,quietOp,blindOp,Int.reduceEq,Int.reduceLT,Int.reduceLE,Nat.reduceLT,ti2,ti3,ti4,ti79,ti80,ti28,ti25,ti31,ti22,ti33,ti24,ti67,ti111,ti145,ti136,ti137,ti117,ti100, e1, List.mem_cons, List.not_mem_nil, or_false, forall_eq_or_imp, forall_eq, Array.size_empty, is, Bool.not_false]
    exact .inr (.inr (LE.refl _))

theorem sizeLL_c (x : Value) (ll : List (List Int)) (H : AH) (hx : Rd2 1 H x ll) (hl : ll.length ≤ 4294967296) : ACalls Try.prog 147 [x] H (is (.int .i64 ll.length) H) := by
  refine acalls_of_awp [.tmp 2] Try.func147 (by kernel_rfl) rfl rfl (Nat.le_of_ble_eq_true rfl) (by kernel_rfl) ?_
  try simp (disch := first | omega | (simp only [ints_length, List.length_replicate, List.length_set, colL_length]; done) | (simp only [ints_length, List.length_replicate, List.length_set, colL_length]; omega)) only [Sall,evalOp,init,binE,binI,unE,convE,okNil,builtE,gv,TD.isAgg,resV,↓reduceIte,Nat.reduceEqDiff,reduceCtorEq,Nat.reduceAdd,Nat.reduceMul,Nat.reduceLeDiff,quietOp,blindOp,Int.reduceEq,Int.reduceLT,Int.reduceLE,Nat.reduceLT,ti2,ti3,ti4,ti79,ti80,ti28,ti25,ti31,ti22,ti33,ti24,ti67,ti111,ti145,ti136,ti137,ti117,ti100, builtE, hx.len, is]

theorem haveSquare_c (n : Int) (x : Value) (ll : List (List Int)) (H : AH) (hx : Rd2 1 H x ll) (hl : ll.length ≤ 4294967296) (hl2 : ∀ r ∈ ll, r.length ≤ 4294967296) :
    ACalls Try.prog 97 [.int .i64 n, x] H (is (.bool (haveB n ll)) H) := by
  refine acalls_up rfl (ACalls.wf (by kernel_rfl) fun hs => acalls_of_awp [.tmp 4] Try.func97 (by kernel_rfl) rfl rfl (Nat.le_of_ble_eq_true rfl) (by kernel_rfl) ?_)
  try simp (disch := first | omega | (simp only [ints_length, List.length_replicate, List.length_set, colL_length]; done) | (simp only [ints_length, List.length_replicate, List.length_set, colL_length]; omega)) only [Sall,evalOp,init,binE,binI,unE,convE,okNil,builtE,gv,TD.isAgg,resV,↓reduceIte,Nat.reduceEqDiff,reduceCtorEq,Nat.reduceAdd,Nat.reduceMul,Nat.reduceLeDiff,quietOp,blindOp,Int.reduceEq,Int.reduceLT,Int.reduceLE,Nat.reduceLT,ti2,ti3,ti4,ti79,ti80,ti28,ti25,ti31,ti22,ti33,ti24,ti67,ti111,ti145,ti136,ti137,ti117,ti100, true_and]
  have up : Up H.next H (H.push ⟨2, true, [.int .i64 n]⟩) := (Up.refl _ H).push (Nat.le_refl _) _
  have e1 : (H.push ⟨2, true, [.int .i64 n]⟩).row H.next = some ⟨2, true, [.int .i64 n]⟩ := by rw [AH.push_row, if_pos rfl]
  revert up e1
  generalize H.push ⟨2, true, [.int .i64 n]⟩ = H1
  intro up e1
  have hx1 := hx.same (up.le hs).row
  refine draw_in [0, 1, 2, 3, 5, 4, 6, 7, 8, 9, 10, 11, 12, 13, 14] (by kernel_rfl) (by kernel_rfl) rfl ?_
  try simp (disch := first | omega | (simp only [ints_length, List.length_replicate, List.length_set, colL_length]; done) | (simp only [ints_length, List.length_replicate, List.length_set, colL_length]; omega)) only [Sall,evalOp,init,binE,binI,unE,convE,okNil,builtE,gv,TD.isAgg,resV,↓reduceIte,Nat.reduceEqDiff,reduceCtorEq,Nat.reduceAdd,Nat.reduceMul,Nat.reduceLeDiff,quietOp,blindOp,Int.reduceEq,Int.reduceLT,Int.reduceLE,Nat.reduceLT,ti2,ti3,ti4,ti79,ti80,ti28,ti25,ti31,ti22,ti33,ti24,ti67,ti111,ti145,ti136,ti137,ti117,ti100, e1]
  refine (between_c _ _ _ _).to ?_
  unfold haveB
  by_cases h1 : 1 ≤ n ∧ n ≤ 14
  · obtain ⟨m, rfl⟩ : ∃ m : Nat, n = m := ⟨n.toNat, by omega⟩
    rw [decide_eq_true h1, Bool.true_and, Int.toNat_natCast]
    try simp (disch := first | omega | (simp only [ints_length, List.length_replicate, List.length_set, colL_length]; done) | (simp only [ints_length, List.length_replicate, List.length_set, colL_length]; omega)) only [Sall,evalOp,init,binE,binI,unE,convE,okNil,builtE,gv,TD.isAgg,resV,↓reduceIte,Nat.reduceEqDiff,reduceCtorEq,Nat.reduceAdd,Nat.reduceMul,Nat.reduceLeDiff,quietOp,blindOp,Int.reduceEq,Int.reduceLT,Int.reduceLE,Nat.reduceLT,ti2,ti3,ti4,ti79,ti80,ti28,ti25,ti31,ti22,ti33,ti24,ti67,ti111,ti145,ti136,ti137,ti117,ti100, e1]
    refine ⟨.inr (.inr (LE.refl _)), (sizeLL_c x ll H1 hx1 hl).to ?_⟩
    by_cases h2 : ll.length = m
    · have e2 : ((ll.length : Int) == (m : Int)) = true := by rw [h2]; exact beq_self_eq_true _
      rw [decide_eq_true h2, Bool.true_and]
      try simp (disch := first | omega | (simp only [ints_length, List.length_replicate, List.length_set, colL_length]; done) | (simp only [ints_length, List.length_replicate, List.length_set, colL_length]; omega)) only [Sall,evalOp,init,binE,binI,unE,convE,okNil,builtE,gv,TD.isAgg,resV,↓reduceIte,Nat.reduceEqDiff,reduceCtorEq,Nat.reduceAdd,Nat.reduceMul,Nat.reduceLeDiff,quietOp,blindOp,Int.reduceEq,Int.reduceLT,Int.reduceLE,Nat.reduceLT,ti2,ti3,ti4,ti79,ti80,ti28,ti25,ti31,ti22,ti33,ti24,ti67,ti111,ti145,ti136,ti137,ti117,ti100, e1, e2, List.mem_cons, List.not_mem_nil, or_false, forall_eq_or_imp, forall_eq, Array.size_empty]
      refine ⟨.inr (.inr (LE.refl _)), (containsFuncLL_c 149 [.pointer (some ⟨H.next, 0, none⟩)] (fun r => !rowOkB m r) x ll H1 hx1 hl (fun y r hr hy => haveSquare1_c m H.next y r H1 e1 (by omega) hy (hl2 r hr))).to ?_⟩
      rw [any_not_all ll.length fun i => rowOkB m (ll.getD i [])]
      try simp (disch := first | omega | (simp only [ints_length, List.length_replicate, List.length_set, colL_length]; done) | (simp only [ints_length, List.length_replicate, List.length_set, colL_length]; omega)) only [Sall,evalOp,init,binE,binI,unE,convE,okNil,builtE,gv,TD.isAgg,resV,↓reduceIte,Nat.reduceEqDiff,reduceCtorEq,Nat.reduceAdd,Nat.reduceMul,Nat.reduceLeDiff,quietOp,blindOp,Int.reduceEq,Int.reduceLT,Int.reduceLE,Nat.reduceLT,ti2,ti3,ti4,ti79,ti80,ti28,ti25,ti31,ti22,ti33,ti24,ti67,ti111,ti145,ti136,ti137,ti117,ti100, Bool.not_not]
      exact ⟨.inr (.inr (LE.refl _)), up⟩
    · have e2 : ((ll.length : Int) == (m : Int)) = false := by rw [beq_eq_false_iff_ne]; omega
      rw [decide_eq_false h2, Bool.false_and]
      try simp (disch := first | omega | (simp only [ints_length, List.length_replicate, List.length_set, colL_length]; done) | (simp only [ints_length, List.length_replicate, List.length_set, colL_length]; omega)) only [Sall,evalOp,init,binE,binI,unE,convE,okNil,builtE,gv,TD.isAgg,resV,↓reduceIte,Nat.reduceEqDiff,reduceCtorEq,Nat.reduceAdd,Nat.reduceMul,Nat.reduceLeDiff,quietOp,blindOp,Int.reduceEq,Int.reduceLT,Int.reduceLE,Nat.reduceLT,ti2,ti3,ti4,ti79,ti80,ti28,ti25,ti31,ti22,ti33,ti24,ti67,ti111,ti145,ti136,ti137,ti117,ti100, e1, e2, List.mem_cons, List.not_mem_nil, or_false, forall_eq_or_imp, forall_eq, Array.size_empty]
      exact ⟨.inr (.inr (LE.refl _)), up⟩
  · rw [decide_eq_false h1, Bool.false_and]
    try simp (disch := first | omega | (simp only [ints_length, List.length_replicate, List.length_set, colL_length]; done) | (simp only [ints_length, List.length_replicate, List.length_set, colL_length]; omega)) only [Sall,evalOp,init,binE,binI,unE,convE,okNil,builtE,gv,TD.isAgg,resV,↓reduceIte,Nat.reduceEqDiff,reduceCtorEq,Nat.reduceAdd,Nat.reduceMul,Nat.reduceLeDiff,quietOp,blindOp,Int.reduceEq,Int.reduceLT,Int.reduceLE,Nat.reduceLT,ti2,ti3,ti4,ti79,ti80,ti28,ti25,ti31,ti22,ti33,ti24,ti67,ti111,ti145,ti136,ti137,ti117,ti100, e1, List.mem_cons, List.not_mem_nil, or_false, forall_eq_or_imp, forall_eq, Array.size_empty]
    exact ⟨.inr (.inr (LE.refl _)), up⟩

theorem l09Rows_c (n : Int) (x : Value) (ll : List (List Int)) (H : AH) (hx : Rd2 1 H x ll) (hl : ll.length ≤ 4294967296) (hl2 : ∀ r ∈ ll, r.length ≤ 4294967296) :
    ACalls Try.prog 95 [.int .i64 n, x] H (is (.int .i64 (sqoC n ll)) H) := by
  refine acalls_of_awp [.tmp 4] Try.func95 (by kernel_rfl) rfl rfl (Nat.le_of_ble_eq_true rfl) (by kernel_rfl) ?_
  try simp (disch := first | omega | (simp only [ints_length, List.length_replicate, List.length_set, colL_length]; done) | (simp only [ints_length, List.length_replicate, List.length_set, colL_length]; omega)) only [Sall,evalOp,init,binE,binI,unE,convE,okNil,builtE,gv,TD.isAgg,resV,↓reduceIte,Nat.reduceEqDiff,reduceCtorEq,Nat.reduceAdd,Nat.reduceMul,Nat.reduceLeDiff,quietOp,blindOp,Int.reduceEq,Int.reduceLT,Int.reduceLE,Nat.reduceLT,ti2,ti3,ti4,ti79,ti80,ti28,ti25,ti31,ti22,ti33,ti24,ti67,ti111,ti145,ti136,ti137,ti117,ti100, true_and]
  refine (l01In_c _ _ _ _).to ?_
  unfold sqoC haveB
  by_cases h1 : 1 ≤ n ∧ n ≤ 14
  · obtain ⟨m, rfl⟩ : ∃ m : Nat, n = m := ⟨n.toNat, by omega⟩
    rw [decide_eq_true h1, Bool.true_and, Int.toNat_natCast]
    by_cases h2 : ll.length = m
    · have e2 : ((ll.length : Int) != (m : Int)) = false := by rw [h2]; exact bne_self_eq_false _
      rw [decide_eq_true h2, Bool.true_and]
      try simp (disch := first | omega | (simp only [ints_length, List.length_replicate, List.length_set, colL_length]; done) | (simp only [ints_length, List.length_replicate, List.length_set, colL_length]; omega)) only [Sall,evalOp,init,binE,binI,unE,convE,okNil,builtE,gv,TD.isAgg,resV,↓reduceIte,Nat.reduceEqDiff,reduceCtorEq,Nat.reduceAdd,Nat.reduceMul,Nat.reduceLeDiff,quietOp,blindOp,Int.reduceEq,Int.reduceLT,Int.reduceLE,Nat.reduceLT,ti2,ti3,ti4,ti79,ti80,ti28,ti25,ti31,ti22,ti33,ti24,ti67,ti111,ti145,ti136,ti137,ti117,ti100, Bool.not_true, builtE, hx.len, e2]
      refine awp_loop (fun z t H' => ∃ a : Nat, z = ll.length - a ∧ a ≤ ll.length ∧ t 5 = .int .i64 a ∧ t 0 = .int .i64 m ∧ t 1 = x ∧ H' = H ∧ (∀ i, i < a → rowOkB m (ll.getD i []) = true)) ll.length ?_ ?_
      · refine ⟨0, by omega, by omega, ?_⟩
        try simp (disch := first | omega | (simp only [ints_length, List.length_replicate, List.length_set, colL_length]; done) | (simp only [ints_length, List.length_replicate, List.length_set, colL_length]; omega)) only [Sall,evalOp,init,binE,binI,unE,convE,okNil,builtE,gv,TD.isAgg,resV,↓reduceIte,Nat.reduceEqDiff,reduceCtorEq,Nat.reduceAdd,Nat.reduceMul,Nat.reduceLeDiff,quietOp,blindOp,Int.reduceEq,Int.reduceLT,Int.reduceLE,Nat.reduceLT,ti2,ti3,ti4,ti79,ti80,ti28,ti25,ti31,ti22,ti33,ti24,ti67,ti111,ti145,ti136,ti137,ti117,ti100, Int.natCast_zero, Nat.not_lt_zero, false_implies]
      · rintro z t H' ⟨a, hz, ha, h5, h0, h1', rfl, hall⟩
        try simp (disch := first | omega | (simp only [ints_length, List.length_replicate, List.length_set, colL_length]; done) | (simp only [ints_length, List.length_replicate, List.length_set, colL_length]; omega)) only [Sall,evalOp,init,binE,binI,unE,convE,okNil,builtE,gv,TD.isAgg,resV,↓reduceIte,Nat.reduceEqDiff,reduceCtorEq,Nat.reduceAdd,Nat.reduceMul,Nat.reduceLeDiff,quietOp,blindOp,Int.reduceEq,Int.reduceLT,Int.reduceLE,Nat.reduceLT,ti2,ti3,ti4,ti79,ti80,ti28,ti25,ti31,ti22,ti33,ti24,ti67,ti111,ti145,ti136,ti137,ti117,ti100, h5, h1', builtE, hx.len]
        refine condC_dec (fun h => ?_) (fun h => ?_)
        · obtain ⟨i, o, u, c, r, y, my, rfl, hr, hy, hsx, hok⟩ := hx.get (j := a) (by omega)
          have hmm := hsx.lenK1
          have hml := hl2 _ (getD_mem (ll := ll) (a := a) (by omega))
          rw [hmm] at hsx
          by_cases h3 : (ll.getD a []).length = m
          · have e3 : (((ll.getD a []).length : Int) != (m : Int)) = false := by rw [h3]; exact bne_self_eq_false _
            try simp (disch := first | omega | (simp only [ints_length, List.length_replicate, List.length_set, colL_length]; done) | (simp only [ints_length, List.length_replicate, List.length_set, colL_length]; omega)) only [Sall,evalOp,init,binE,binI,unE,convE,okNil,builtE,gv,TD.isAgg,resV,↓reduceIte,Nat.reduceEqDiff,reduceCtorEq,Nat.reduceAdd,Nat.reduceMul,Nat.reduceLeDiff,quietOp,blindOp,Int.reduceEq,Int.reduceLT,Int.reduceLE,Nat.reduceLT,ti2,ti3,ti4,ti79,ti80,ti28,ti25,ti31,ti22,ti33,ti24,ti67,ti111,ti145,ti136,ti137,ti117,ti100, h5, h0, h1', hr, hy, hok, builtE, hsx.len, e3]
            (repeat refine And.intro (by omega) ?_)
            refine awp_loop (fun z t H2 => ∃ b : Nat, z = (ll.getD a []).length - b ∧ b ≤ (ll.getD a []).length ∧ t 6 = .int .i64 b ∧ t 5 = .int .i64 a ∧ t 0 = .int .i64 m ∧ t 1 = .slice (some ⟨i, o, u⟩) ll.length c ∧ H2 = H' ∧ (∀ j, j < b → (0 ≤ (ll.getD a []).getD j 0 ∧ (ll.getD a []).getD j 0 ≤ (m : Int) - 1))) (ll.getD a []).length ?_ ?_
            · refine ⟨0, by omega, by omega, ?_⟩
              try simp (disch := first | omega | (simp only [ints_length, List.length_replicate, List.length_set, colL_length]; done) | (simp only [ints_length, List.length_replicate, List.length_set, colL_length]; omega)) only [Sall,evalOp,init,binE,binI,unE,convE,okNil,builtE,gv,TD.isAgg,resV,↓reduceIte,Nat.reduceEqDiff,reduceCtorEq,Nat.reduceAdd,Nat.reduceMul,Nat.reduceLeDiff,quietOp,blindOp,Int.reduceEq,Int.reduceLT,Int.reduceLE,Nat.reduceLT,ti2,ti3,ti4,ti79,ti80,ti28,ti25,ti31,ti22,ti33,ti24,ti67,ti111,ti145,ti136,ti137,ti117,ti100, Int.natCast_zero, Nat.not_lt_zero, false_implies, h5, h0, h1']
            · rintro z t H4 ⟨b, hz, hb, h6, h5, h0, h1', rfl, hin⟩
              try simp (disch := first | omega | (simp only [ints_length, List.length_replicate, List.length_set, colL_length]; done) | (simp only [ints_length, List.length_replicate, List.length_set, colL_length]; omega)) only [Sall,evalOp,init,binE,binI,unE,convE,okNil,builtE,gv,TD.isAgg,resV,↓reduceIte,Nat.reduceEqDiff,reduceCtorEq,Nat.reduceAdd,Nat.reduceMul,Nat.reduceLeDiff,quietOp,blindOp,Int.reduceEq,Int.reduceLT,Int.reduceLE,Nat.reduceLT,ti2,ti3,ti4,ti79,ti80,ti28,ti25,ti31,ti22,ti33,ti24,ti67,ti111,ti145,ti136,ti137,ti117,ti100, h6, h5, h1', hr, hy, hok, builtE, hsx.len]
              (repeat refine And.intro (by omega) ?_)
              refine condC_dec (fun hh => ?_) (fun hh => ?_)
              · obtain ⟨i7, o7, u7, c7, r7, rfl, hr7, hc7, hs7, hg7⟩ := hsx.get (by omega)
                have g1 := hs7 b (by omega)
                try simp (disch := first | omega | (simp only [ints_length, List.length_replicate, List.length_set, colL_length]; done) | (simp only [ints_length, List.length_replicate, List.length_set, colL_length]; omega)) only [Sall,evalOp,init,binE,binI,unE,convE,okNil,builtE,gv,TD.isAgg,resV,↓reduceIte,Nat.reduceEqDiff,reduceCtorEq,Nat.reduceAdd,Nat.reduceMul,Nat.reduceLeDiff,quietOp,blindOp,Int.reduceEq,Int.reduceLT,Int.reduceLE,Nat.reduceLT,ti2,ti3,ti4,ti79,ti80,ti28,ti25,ti31,ti22,ti33,ti24,ti67,ti111,ti145,ti136,ti137,ti117,ti100, h6, h5, h0, h1', hr, hy, hok, hr7, g1, w64]
                (repeat refine And.intro (by omega) ?_)
                refine (l01In_c _ _ _ _).to ?_
                by_cases hin2 : 0 ≤ (ll.getD a []).getD b 0 ∧ (ll.getD a []).getD b 0 ≤ (m : Int) - 1
                · rw [decide_eq_true hin2]
                  try simp (disch := first | omega | (simp only [ints_length, List.length_replicate, List.length_set, colL_length]; done) | (simp only [ints_length, List.length_replicate, List.length_set, colL_length]; omega)) only [Sall,evalOp,init,binE,binI,unE,convE,okNil,builtE,gv,TD.isAgg,resV,↓reduceIte,Nat.reduceEqDiff,reduceCtorEq,Nat.reduceAdd,Nat.reduceMul,Nat.reduceLeDiff,quietOp,blindOp,Int.reduceEq,Int.reduceLT,Int.reduceLE,Nat.reduceLT,ti2,ti3,ti4,ti79,ti80,ti28,ti25,ti31,ti22,ti33,ti24,ti67,ti111,ti145,ti136,ti137,ti117,ti100, Bool.not_true, h6, h5, h0, h1', w64]
                  refine ⟨(ll.getD a []).length - (b + 1), by omega, b + 1, rfl, by omega, rfl, fun j hj => ?_⟩
                  by_cases e : j = b
                  · rw [e]; exact hin2
                  · exact hin j (by omega)
                · rw [decide_eq_false hin2]
                  try simp (disch := first | omega | (simp only [ints_length, List.length_replicate, List.length_set, colL_length]; done) | (simp only [ints_length, List.length_replicate, List.length_set, colL_length]; omega)) only [Sall,evalOp,init,binE,binI,unE,convE,okNil,builtE,gv,TD.isAgg,resV,↓reduceIte,Nat.reduceEqDiff,reduceCtorEq,Nat.reduceAdd,Nat.reduceMul,Nat.reduceLeDiff,quietOp,blindOp,Int.reduceEq,Int.reduceLT,Int.reduceLE,Nat.reduceLT,ti2,ti3,ti4,ti79,ti80,ti28,ti25,ti31,ti22,ti33,ti24,ti67,ti111,ti145,ti136,ti137,ti117,ti100, Bool.not_false, is]
                  rw [all_false_of (i := a) (by omega) (by unfold rowOkB; rw [all_false_of (i := b) (by omega) (decide_eq_false hin2), Bool.and_false])]
                  simp
              · try simp (disch := first | omega | (simp only [ints_length, List.length_replicate, List.length_set, colL_length]; done) | (simp only [ints_length, List.length_replicate, List.length_set, colL_length]; omega)) only [Sall,evalOp,init,binE,binI,unE,convE,okNil,builtE,gv,TD.isAgg,resV,↓reduceIte,Nat.reduceEqDiff,reduceCtorEq,Nat.reduceAdd,Nat.reduceMul,Nat.reduceLeDiff,quietOp,blindOp,Int.reduceEq,Int.reduceLT,Int.reduceLE,Nat.reduceLT,ti2,ti3,ti4,ti79,ti80,ti28,ti25,ti31,ti22,ti33,ti24,ti67,ti111,ti145,ti136,ti137,ti117,ti100, h5, h0, h1', w64]
                refine ⟨ll.length - (a + 1), by omega, a + 1, rfl, by omega, rfl, fun j hj => ?_⟩
                by_cases e : j = a
                · rw [e]; unfold rowOkB
                  rw [decide_eq_true h3, Bool.true_and, all_true_of]
                  intro q hq
                  exact decide_eq_true (hin q (by omega))
                · exact hall j (by omega)
          · have e3 : (((ll.getD a []).length : Int) != (m : Int)) = true := by rw [bne_iff_ne]; omega
            try simp (disch := first | omega | (simp only [ints_length, List.length_replicate, List.length_set, colL_length]; done) | (simp only [ints_length, List.length_replicate, List.length_set, colL_length]; omega)) only [Sall,evalOp,init,binE,binI,unE,convE,okNil,builtE,gv,TD.isAgg,resV,↓reduceIte,Nat.reduceEqDiff,reduceCtorEq,Nat.reduceAdd,Nat.reduceMul,Nat.reduceLeDiff,quietOp,blindOp,Int.reduceEq,Int.reduceLT,Int.reduceLE,Nat.reduceLT,ti2,ti3,ti4,ti79,ti80,ti28,ti25,ti31,ti22,ti33,ti24,ti67,ti111,ti145,ti136,ti137,ti117,ti100, h5, h0, h1', hr, hy, hok, builtE, hsx.len, e3, is]
            (repeat refine And.intro (by omega) ?_)
            rw [all_false_of (i := a) (by omega) (by unfold rowOkB; rw [decide_eq_false h3, Bool.false_and])]
            simp
        · try simp (disch := first | omega | (simp only [ints_length, List.length_replicate, List.length_set, colL_length]; done) | (simp only [ints_length, List.length_replicate, List.length_set, colL_length]; omega)) only [Sall,evalOp,init,binE,binI,unE,convE,okNil,builtE,gv,TD.isAgg,resV,↓reduceIte,Nat.reduceEqDiff,reduceCtorEq,Nat.reduceAdd,Nat.reduceMul,Nat.reduceLeDiff,quietOp,blindOp,Int.reduceEq,Int.reduceLT,Int.reduceLE,Nat.reduceLT,ti2,ti3,ti4,ti79,ti80,ti28,ti25,ti31,ti22,ti33,ti24,ti67,ti111,ti145,ti136,ti137,ti117,ti100, is]
          rw [all_true_of fun i hi => hall i (by omega)]
          simp
    · have e2 : ((ll.length : Int) != (m : Int)) = true := by rw [bne_iff_ne]; omega
      rw [decide_eq_false h2, Bool.false_and]
      try simp (disch := first | omega | (simp only [ints_length, List.length_replicate, List.length_set, colL_length]; done) | (simp only [ints_length, List.length_replicate, List.length_set, colL_length]; omega)) only [Sall,evalOp,init,binE,binI,unE,convE,okNil,builtE,gv,TD.isAgg,resV,↓reduceIte,Nat.reduceEqDiff,reduceCtorEq,Nat.reduceAdd,Nat.reduceMul,Nat.reduceLeDiff,quietOp,blindOp,Int.reduceEq,Int.reduceLT,Int.reduceLE,Nat.reduceLT,ti2,ti3,ti4,ti79,ti80,ti28,ti25,ti31,ti22,ti33,ti24,ti67,ti111,ti145,ti136,ti137,ti117,ti100, Bool.not_true, builtE, hx.len, e2, is]
  · rw [decide_eq_false h1, Bool.false_and]
    try simp (disch := first | omega | (simp only [ints_length, List.length_replicate, List.length_set, colL_length]; done) | (simp only [ints_length, List.length_replicate, List.length_set, colL_length]; omega)) only [Sall,evalOp,init,binE,binI,unE,convE,okNil,builtE,gv,TD.isAgg,resV,↓reduceIte,Nat.reduceEqDiff,reduceCtorEq,Nat.reduceAdd,Nat.reduceMul,Nat.reduceLeDiff,quietOp,blindOp,Int.reduceEq,Int.reduceLT,Int.reduceLE,Nat.reduceLT,ti2,ti3,ti4,ti79,ti80,ti28,ti25,ti31,ti22,ti33,ti24,ti67,ti111,ti145,ti136,ti137,ti117,ti100, Bool.not_false, is]
theorem isLatin_c (m : Nat) (x : Value) (ll : List (List Int)) (H : AH) (hx : Rd2 1 H x ll) (hl : ll.length = m) (hm : m ≤ 14) (hin : ∀ i, i < m → (ll.getD i []).length = m ∧ ∀ j, j < m → 0 ≤ (ll.getD i []).getD j 0 ∧ (ll.getD i []).getD j 0 < m) :
    ACalls Try.prog 98 [.int .i64 m, x] H (is (.bool (latB m ll)) H) := by
  refine acalls_up rfl (ACalls.wf (by kernel_rfl) fun hs => acalls_of_awp [.tmp 4] Try.func98 (by kernel_rfl) rfl rfl (Nat.le_of_ble_eq_true rfl) (by kernel_rfl) ?_)
  try simp (disch := first | omega | (simp only [ints_length, List.length_replicate, List.length_set, colL_length]; done) | (simp only [ints_length, List.length_replicate, List.length_set, colL_length]; omega)) only [Sall,evalOp,init,binE,binI,unE,convE,okNil,builtE,gv,TD.isAgg,resV,↓reduceIte,Nat.reduceEqDiff,reduceCtorEq,Nat.reduceAdd,Nat.reduceMul,Nat.reduceLeDiff,quietOp,blindOp,Int.reduceEq,Int.reduceLT,Int.reduceLE,Nat.reduceLT,ti2,ti3,ti4,ti79,ti80,ti28,ti25,ti31,ti22,ti33,ti24,ti67,ti111,ti145,ti136,ti137,ti117,ti100, true_and]
  refine awp_loop (fun z t H' => ∃ a : Nat, z = m - a ∧ a ≤ m ∧ t 10 = .int .i64 a ∧ t 9 = .int .i64 m ∧ t 0 = .int .i64 m ∧ t 1 = x ∧ Up H.next H H' ∧ (∀ i, i < a → latAt m ll i = true)) m ?_ ?_
  · refine ⟨0, by omega, by omega, ?_⟩
    try simp (disch := first | omega | (simp only [ints_length, List.length_replicate, List.length_set, colL_length]; done) | (simp only [ints_length, List.length_replicate, List.length_set, colL_length]; omega)) only [Sall,evalOp,init,binE,binI,unE,convE,okNil,builtE,gv,TD.isAgg,resV,↓reduceIte,Nat.reduceEqDiff,reduceCtorEq,Nat.reduceAdd,Nat.reduceMul,Nat.reduceLeDiff,quietOp,blindOp,Int.reduceEq,Int.reduceLT,Int.reduceLE,Nat.reduceLT,ti2,ti3,ti4,ti79,ti80,ti28,ti25,ti31,ti22,ti33,ti24,ti67,ti111,ti145,ti136,ti137,ti117,ti100, Int.natCast_zero, Nat.not_lt_zero, false_implies]
    exact Up.refl _ _
  · rintro z t H' ⟨a, hz, ha, h10, h9, h0, h1, hup, hall⟩
    have hup1 := hup.next
    try simp (disch := first | omega | (simp only [ints_length, List.length_replicate, List.length_set, colL_length]; done) | (simp only [ints_length, List.length_replicate, List.length_set, colL_length]; omega)) only [Sall,evalOp,init,binE,binI,unE,convE,okNil,builtE,gv,TD.isAgg,resV,↓reduceIte,Nat.reduceEqDiff,reduceCtorEq,Nat.reduceAdd,Nat.reduceMul,Nat.reduceLeDiff,quietOp,blindOp,Int.reduceEq,Int.reduceLT,Int.reduceLE,Nat.reduceLT,ti2,ti3,ti4,ti79,ti80,ti28,ti25,ti31,ti22,ti33,ti24,ti67,ti111,ti145,ti136,ti137,ti117,ti100, h10, h9]
    refine condC_dec (fun h => ?_) (fun h => ?_)
    · have hx' := hx.same (hup.le hs).row
      try simp (disch := first | omega | (simp only [ints_length, List.length_replicate, List.length_set, colL_length]; done) | (simp only [ints_length, List.length_replicate, List.length_set, colL_length]; omega)) only [Sall,evalOp,init,binE,binI,unE,convE,okNil,builtE,gv,TD.isAgg,resV,↓reduceIte,Nat.reduceEqDiff,reduceCtorEq,Nat.reduceAdd,Nat.reduceMul,Nat.reduceLeDiff,quietOp,blindOp,Int.reduceEq,Int.reduceLT,Int.reduceLE,Nat.reduceLT,ti2,ti3,ti4,ti79,ti80,ti28,ti25,ti31,ti22,ti33,ti24,ti67,ti111,ti145,ti136,ti137,ti117,ti100, h10, h9, h0, h1, builtE, hx'.len, zeros_zero]
      refine awp_loop (fun z t H2 => ∃ (b : Nat) (w : Value) (lo hi : Nat), z = m - b ∧ b ≤ m ∧ t 16 = .int .i64 b ∧ t 15 = .int .i64 m ∧ t 14 = x ∧ t 6 = w ∧ t 5 = .int .i64 a ∧ t 10 = .int .i64 a ∧ t 9 = .int .i64 m ∧ t 0 = .int .i64 m ∧ t 1 = x ∧ Up H'.next H' H2 ∧ H'.next ≤ lo ∧ lo ≤ hi ∧ hi ≤ H2.next ∧ Fr 1 2 lo hi H2 w b (colL ll a b)) m ?_ ?_
      · refine ⟨0, .slice (some ⟨H'.next, 0, some 1⟩) 0 0, H'.next, H'.next + 1, by omega, by omega, ?_⟩
        try simp (disch := first | omega | (simp only [ints_length, List.length_replicate, List.length_set, colL_length]; done) | (simp only [ints_length, List.length_replicate, List.length_set, colL_length]; omega)) only [Sall,evalOp,init,binE,binI,unE,convE,okNil,builtE,gv,TD.isAgg,resV,↓reduceIte,Nat.reduceEqDiff,reduceCtorEq,Nat.reduceAdd,Nat.reduceMul,Nat.reduceLeDiff,quietOp,blindOp,Int.reduceEq,Int.reduceLT,Int.reduceLE,Nat.reduceLT,ti2,ti3,ti4,ti79,ti80,ti28,ti25,ti31,ti22,ti33,ti24,ti67,ti111,ti145,ti136,ti137,ti117,ti100, Int.natCast_zero, h10, h9, h0, h1, hl]
        refine ⟨(Up.refl _ H').push (by omega) _, ?_⟩
        (repeat refine And.intro (by omega) ?_)
        exact ⟨by simp [colL], .inr ⟨H'.next, Nat.le_refl _, Nat.lt_succ_self _, rfl, by rw [AH.push_row, if_pos rfl]; rfl⟩⟩
      · rintro z t H2 ⟨b, w, lo, hi, hz, hb, h16, h15, h14, h6, h5, h10, h9, h0, h1, hup2, hlo, hlh, hhi, hw⟩
        have hup21 := hup2.next
        have hU2 : Up H.next H H2 := hup.trans hup2 (by omega)
        have hx2 := hx.same (hU2.le hs).row
        try simp (disch := first | omega | (simp only [ints_length, List.length_replicate, List.length_set, colL_length]; done) | (simp only [ints_length, List.length_replicate, List.length_set, colL_length]; omega)) only [Sall,evalOp,init,binE,binI,unE,convE,okNil,builtE,gv,TD.isAgg,resV,↓reduceIte,Nat.reduceEqDiff,reduceCtorEq,Nat.reduceAdd,Nat.reduceMul,Nat.reduceLeDiff,quietOp,blindOp,Int.reduceEq,Int.reduceLT,Int.reduceLE,Nat.reduceLT,ti2,ti3,ti4,ti79,ti80,ti28,ti25,ti31,ti22,ti33,ti24,ti67,ti111,ti145,ti136,ti137,ti117,ti100, h16, h15]
        refine condC_dec (fun hh => ?_) (fun hh => ?_)
        · obtain ⟨i, o, u, c, r, y, my, rfl, hr, hy, hsx, hok⟩ := hx2.get (j := b) (by omega)
          have hmm := hsx.lenK1
          have hlb := (hin b (by omega)).1
          rw [hmm, hlb] at hsx
          have hsl := hsx.len
          obtain ⟨i7, o7, u7, c7, r7, rfl, hr7, hc7, hs7, hg7⟩ := hsx.get (by omega)
          have g1 := hs7 a (by omega)
          have zz : zeros 1 [.int .i64 0] = [.int .i64 0] := rfl
          try simp (disch := first | omega | (simp only [ints_length, List.length_replicate, List.length_set, colL_length]; done) | (simp only [ints_length, List.length_replicate, List.length_set, colL_length]; omega)) only [Sall,evalOp,init,binE,binI,unE,convE,okNil,builtE,gv,TD.isAgg,resV,↓reduceIte,Nat.reduceEqDiff,reduceCtorEq,Nat.reduceAdd,Nat.reduceMul,Nat.reduceLeDiff,quietOp,blindOp,Int.reduceEq,Int.reduceLT,Int.reduceLE,Nat.reduceLT,ti2,ti3,ti4,ti79,ti80,ti28,ti25,ti31,ti22,ti33,ti24,ti67,ti111,ti145,ti136,ti137,ti117,ti100, h16, h15, h14, h6, h5, h10, h9, h0, h1, hr, hy, hok, hr7, g1, zz, slCells]
          (repeat refine And.intro (by omega) ?_)
          obtain ⟨H4, e4⟩ : ∃ H4, H4 = H2.push ⟨2, true, [.int .i64 ((ll.getD b []).getD a 0)]⟩ := ⟨_, rfl⟩
          have n4 : H4.next = H2.next + 1 := by rw [e4]; rfl
          have s4 : ∀ i, i < H2.next → H4.row i = H2.row i := fun i hi => by rw [e4, AH.push_row, if_neg (by omega)]
          rw [← e4]
          clear e4
          refine appE_fr (k := 1) (lo := lo) (hi := hi) (l := colL ll a b) (m := [(ll.getD b []).getD a 0]) (hw.same fun i _ hi => s4 i (by omega)) rfl (by omega) rfl (by omega) (by decide) (by omega) (by omega) ?_
          intro v' H5 n5 s5 f5
          try simp (disch := first | omega | (simp only [ints_length, List.length_replicate, List.length_set, colL_length]; done) | (simp only [ints_length, List.length_replicate, List.length_set, colL_length]; omega)) only [Sall,evalOp,init,binE,binI,unE,convE,okNil,builtE,gv,TD.isAgg,resV,↓reduceIte,Nat.reduceEqDiff,reduceCtorEq,Nat.reduceAdd,Nat.reduceMul,Nat.reduceLeDiff,quietOp,blindOp,Int.reduceEq,Int.reduceLT,Int.reduceLE,Nat.reduceLT,ti2,ti3,ti4,ti79,ti80,ti28,ti25,ti31,ti22,ti33,ti24,ti67,ti111,ti145,ti136,ti137,ti117,ti100, h16, h15, h14, h5, h10, h9, h0, h1, w64]
          refine ⟨m - (b + 1), by omega, b + 1, v', H4.next, H4.next + 1, rfl, by omega, rfl, rfl, ⟨by omega, fun i hi => by rw [s5 i (by omega) (by omega), s4 i (by omega), hup2.row i hi]⟩, by omega, by omega, by omega, ?_⟩
          rw [colL_succ]; exact f5
        · have hb2 : b = m := by omega
          subst hb2
          obtain ⟨i, o, u, c, r, y, my, rfl, hr, hy, hsx, hok⟩ := hx2.get (j := a) (by omega)
          have hmm := hsx.lenK1
          rw [hmm] at hsx
          have hla := (hin a (by omega)).1
          try simp (disch := first | omega | (simp only [ints_length, List.length_replicate, List.length_set, colL_length]; done) | (simp only [ints_length, List.length_replicate, List.length_set, colL_length]; omega)) only [Sall,evalOp,init,binE,binI,unE,convE,okNil,builtE,gv,TD.isAgg,resV,↓reduceIte,Nat.reduceEqDiff,reduceCtorEq,Nat.reduceAdd,Nat.reduceMul,Nat.reduceLeDiff,quietOp,blindOp,Int.reduceEq,Int.reduceLT,Int.reduceLE,Nat.reduceLT,ti2,ti3,ti4,ti79,ti80,ti28,ti25,ti31,ti22,ti33,ti24,ti67,ti111,ti145,ti136,ti137,ti117,ti100, h6, h5, h10, h9, h0, h1, hr, hy, hok]
          (repeat refine And.intro (by omega) ?_)
          refine (isOrder_c b y _ H2 hsx (by omega)).to ?_
          cases ho1 : ordB b (ll.getD a []) with
          | false =>
            try simp (disch := first | omega | (simp only [ints_length, List.length_replicate, List.length_set, colL_length]; done) | (simp only [ints_length, List.length_replicate, List.length_set, colL_length]; omega)) only [Sall,evalOp,init,binE,binI,unE,convE,okNil,builtE,gv,TD.isAgg,resV,↓reduceIte,Nat.reduceEqDiff,reduceCtorEq,Nat.reduceAdd,Nat.reduceMul,Nat.reduceLeDiff,quietOp,blindOp,Int.reduceEq,Int.reduceLT,Int.reduceLE,Nat.reduceLT,ti2,ti3,ti4,ti79,ti80,ti28,ti25,ti31,ti22,ti33,ti24,ti67,ti111,ti145,ti136,ti137,ti117,ti100, Bool.not_false]
            unfold latB
            rw [all_false_of (i := a) (by omega) (by unfold latAt; rw [ho1, Bool.false_and])]
            exact ⟨rfl, hU2⟩
          | true =>
            have hcl := colL_length ll a b
            have hw3 : Rd 1 H2 w (colL ll a b).length (colL ll a b) := by rw [hcl]; exact hw.rd
            try simp (disch := first | omega | (simp only [ints_length, List.length_replicate, List.length_set, colL_length]; done) | (simp only [ints_length, List.length_replicate, List.length_set, colL_length]; omega)) only [Sall,evalOp,init,binE,binI,unE,convE,okNil,builtE,gv,TD.isAgg,resV,↓reduceIte,Nat.reduceEqDiff,reduceCtorEq,Nat.reduceAdd,Nat.reduceMul,Nat.reduceLeDiff,quietOp,blindOp,Int.reduceEq,Int.reduceLT,Int.reduceLE,Nat.reduceLT,ti2,ti3,ti4,ti79,ti80,ti28,ti25,ti31,ti22,ti33,ti24,ti67,ti111,ti145,ti136,ti137,ti117,ti100, Bool.not_true, h6, h5, h10, h9, h0, h1]
            refine (isOrder_c b w _ H2 hw3 (by omega)).to ?_
            cases ho2 : ordB b (colL ll a b) with
            | false =>
              try simp (disch := first | omega | (simp only [ints_length, List.length_replicate, List.length_set, colL_length]; done) | (simp only [ints_length, List.length_replicate, List.length_set, colL_length]; omega)) only [Sall,evalOp,init,binE,binI,unE,convE,okNil,builtE,gv,TD.isAgg,resV,↓reduceIte,Nat.reduceEqDiff,reduceCtorEq,Nat.reduceAdd,Nat.reduceMul,Nat.reduceLeDiff,quietOp,blindOp,Int.reduceEq,Int.reduceLT,Int.reduceLE,Nat.reduceLT,ti2,ti3,ti4,ti79,ti80,ti28,ti25,ti31,ti22,ti33,ti24,ti67,ti111,ti145,ti136,ti137,ti117,ti100, Bool.not_false]
              unfold latB
              rw [all_false_of (i := a) (by omega) (by unfold latAt; rw [ho2, Bool.and_false])]
              exact ⟨rfl, hU2⟩
            | true =>
              try simp (disch := first | omega | (simp only [ints_length, List.length_replicate, List.length_set, colL_length]; done) | (simp only [ints_length, List.length_replicate, List.length_set, colL_length]; omega)) only [Sall,evalOp,init,binE,binI,unE,convE,okNil,builtE,gv,TD.isAgg,resV,↓reduceIte,Nat.reduceEqDiff,reduceCtorEq,Nat.reduceAdd,Nat.reduceMul,Nat.reduceLeDiff,quietOp,blindOp,Int.reduceEq,Int.reduceLT,Int.reduceLE,Nat.reduceLT,ti2,ti3,ti4,ti79,ti80,ti28,ti25,ti31,ti22,ti33,ti24,ti67,ti111,ti145,ti136,ti137,ti117,ti100, Bool.not_true, h10, h9, h0, h1, w64]
              refine ⟨b - (a + 1), by omega, a + 1, rfl, by omega, rfl, hU2, fun i hi => ?_⟩
              by_cases e : i = a
              · rw [e]; unfold latAt; rw [ho1, ho2]; rfl
              · exact hall i (by omega)
    · try simp (disch := first | omega | (simp only [ints_length, List.length_replicate, List.length_set, colL_length]; done) | (simp only [ints_length, List.length_replicate, List.length_set, colL_length]; omega)) only [Sall,evalOp,init,binE,binI,unE,convE,okNil,builtE,gv,TD.isAgg,resV,↓reduceIte,Nat.reduceEqDiff,reduceCtorEq,Nat.reduceAdd,Nat.reduceMul,Nat.reduceLeDiff,quietOp,blindOp,Int.reduceEq,Int.reduceLT,Int.reduceLE,Nat.reduceLT,ti2,ti3,ti4,ti79,ti80,ti28,ti25,ti31,ti22,ti33,ti24,ti67,ti111,ti145,ti136,ti137,ti117,ti100, true_and]
      unfold latB
      rw [all_true_of fun i hi => hall i (by omega)]
      exact ⟨rfl, hup⟩
theorem l09Square_c (m : Nat) (x : Value) (ll : List (List Int)) (H : AH) (hx : Rd2 1 H x ll) (hl : ll.length = m) (hm : m ≤ 14) (hin : ∀ i, i < m → (ll.getD i []).length = m ∧ ∀ j, j < m → 0 ≤ (ll.getD i []).getD j 0 ∧ (ll.getD i []).getD j 0 < m) :
    ACalls Try.prog 96 [.int .i64 m, x] H (is (.bool (latB m ll)) H) := by
  refine acalls_up rfl (ACalls.wf (by kernel_rfl) fun hs => acalls_of_awp [.tmp 4] Try.func96 (by kernel_rfl) rfl rfl (Nat.le_of_ble_eq_true rfl) (by kernel_rfl) ?_)
  try simp (disch := first | omega | (simp only [ints_length, List.length_replicate, List.length_set, colL_length]; done) | (simp only [ints_length, List.length_replicate, List.length_set, colL_length]; omega)) only [Sall,evalOp,init,binE,binI,unE,convE,okNil,builtE,gv,TD.isAgg,resV,↓reduceIte,Nat.reduceEqDiff,reduceCtorEq,Nat.reduceAdd,Nat.reduceMul,Nat.reduceLeDiff,quietOp,blindOp,Int.reduceEq,Int.reduceLT,Int.reduceLE,Nat.reduceLT,ti2,ti3,ti4,ti79,ti80,ti28,ti25,ti31,ti22,ti33,ti24,ti67,ti111,ti145,ti136,ti137,ti117,ti100, true_and]
  refine awp_loop (fun z t H' => ∃ a : Nat, z = m - a ∧ a ≤ m ∧ t 5 = .int .i64 a ∧ t 0 = .int .i64 m ∧ t 1 = x ∧ Up H.next H H' ∧ (∀ i, i < a → latAt m ll i = true)) m ?_ ?_
  · refine ⟨0, by omega, by omega, ?_⟩
    try simp (disch := first | omega | (simp only [ints_length, List.length_replicate, List.length_set, colL_length]; done) | (simp only [ints_length, List.length_replicate, List.length_set, colL_length]; omega)) only [Sall,evalOp,init,binE,binI,unE,convE,okNil,builtE,gv,TD.isAgg,resV,↓reduceIte,Nat.reduceEqDiff,reduceCtorEq,Nat.reduceAdd,Nat.reduceMul,Nat.reduceLeDiff,quietOp,blindOp,Int.reduceEq,Int.reduceLT,Int.reduceLE,Nat.reduceLT,ti2,ti3,ti4,ti79,ti80,ti28,ti25,ti31,ti22,ti33,ti24,ti67,ti111,ti145,ti136,ti137,ti117,ti100, Int.natCast_zero, Nat.not_lt_zero, false_implies]
    exact Up.refl _ _
  · rintro z t H' ⟨a, hz, ha, h5, h0, h1, hup, hall⟩
    have hup1 := hup.next
    try simp (disch := first | omega | (simp only [ints_length, List.length_replicate, List.length_set, colL_length]; done) | (simp only [ints_length, List.length_replicate, List.length_set, colL_length]; omega)) only [Sall,evalOp,init,binE,binI,unE,convE,okNil,builtE,gv,TD.isAgg,resV,↓reduceIte,Nat.reduceEqDiff,reduceCtorEq,Nat.reduceAdd,Nat.reduceMul,Nat.reduceLeDiff,quietOp,blindOp,Int.reduceEq,Int.reduceLT,Int.reduceLE,Nat.reduceLT,ti2,ti3,ti4,ti79,ti80,ti28,ti25,ti31,ti22,ti33,ti24,ti67,ti111,ti145,ti136,ti137,ti117,ti100, h5, h0]
    refine condC_dec (fun h => ?_) (fun h => ?_)
    · have hx' := hx.same (hup.le hs).row
      try simp (disch := first | omega | (simp only [ints_length, List.length_replicate, List.length_set, colL_length]; done) | (simp only [ints_length, List.length_replicate, List.length_set, colL_length]; omega)) only [Sall,evalOp,init,binE,binI,unE,convE,okNil,builtE,gv,TD.isAgg,resV,↓reduceIte,Nat.reduceEqDiff,reduceCtorEq,Nat.reduceAdd,Nat.reduceMul,Nat.reduceLeDiff,quietOp,blindOp,Int.reduceEq,Int.reduceLT,Int.reduceLE,Nat.reduceLT,ti2,ti3,ti4,ti79,ti80,ti28,ti25,ti31,ti22,ti33,ti24,ti67,ti111,ti145,ti136,ti137,ti117,ti100, h5, h0, h1, zeros_zero]
      refine awp_loop (fun z t H2 => ∃ (b : Nat) (w : Value) (lo hi : Nat), z = m - b ∧ b ≤ m ∧ t 7 = .int .i64 b ∧ t 6 = w ∧ t 5 = .int .i64 a ∧ t 0 = .int .i64 m ∧ t 1 = x ∧ Up H'.next H' H2 ∧ H'.next ≤ lo ∧ lo ≤ hi ∧ hi ≤ H2.next ∧ Fr 1 2 lo hi H2 w b (colL ll a b)) m ?_ ?_
      · refine ⟨0, .slice (some ⟨H'.next, 0, some 1⟩) 0 0, H'.next, H'.next + 1, by omega, by omega, ?_⟩
        try simp (disch := first | omega | (simp only [ints_length, List.length_replicate, List.length_set, colL_length]; done) | (simp only [ints_length, List.length_replicate, List.length_set, colL_length]; omega)) only [Sall,evalOp,init,binE,binI,unE,convE,okNil,builtE,gv,TD.isAgg,resV,↓reduceIte,Nat.reduceEqDiff,reduceCtorEq,Nat.reduceAdd,Nat.reduceMul,Nat.reduceLeDiff,quietOp,blindOp,Int.reduceEq,Int.reduceLT,Int.reduceLE,Nat.reduceLT,ti2,ti3,ti4,ti79,ti80,ti28,ti25,ti31,ti22,ti33,ti24,ti67,ti111,ti145,ti136,ti137,ti117,ti100, Int.natCast_zero, h5, h0, h1]
        refine ⟨(Up.refl _ H').push (by omega) _, ?_⟩
        (repeat refine And.intro (by omega) ?_)
        exact ⟨by simp [colL], .inr ⟨H'.next, Nat.le_refl _, Nat.lt_succ_self _, rfl, by rw [AH.push_row, if_pos rfl]; rfl⟩⟩
      · rintro z t H2 ⟨b, w, lo, hi, hz, hb, h7, h6, h5, h0, h1, hup2, hlo, hlh, hhi, hw⟩
        have hup21 := hup2.next
        have hU2 : Up H.next H H2 := hup.trans hup2 (by omega)
        have hx2 := hx.same (hU2.le hs).row
        try simp (disch := first | omega | (simp only [ints_length, List.length_replicate, List.length_set, colL_length]; done) | (simp only [ints_length, List.length_replicate, List.length_set, colL_length]; omega)) only [Sall,evalOp,init,binE,binI,unE,convE,okNil,builtE,gv,TD.isAgg,resV,↓reduceIte,Nat.reduceEqDiff,reduceCtorEq,Nat.reduceAdd,Nat.reduceMul,Nat.reduceLeDiff,quietOp,blindOp,Int.reduceEq,Int.reduceLT,Int.reduceLE,Nat.reduceLT,ti2,ti3,ti4,ti79,ti80,ti28,ti25,ti31,ti22,ti33,ti24,ti67,ti111,ti145,ti136,ti137,ti117,ti100, h7, h0]
        refine condC_dec (fun hh => ?_) (fun hh => ?_)
        · obtain ⟨i, o, u, c, r, y, my, rfl, hr, hy, hsx, hok⟩ := hx2.get (j := b) (by omega)
          have hmm := hsx.lenK1
          have hlb := (hin b (by omega)).1
          rw [hmm, hlb] at hsx
          have hsl := hsx.len
          obtain ⟨i7, o7, u7, c7, r7, rfl, hr7, hc7, hs7, hg7⟩ := hsx.get (by omega)
          have g1 := hs7 a (by omega)
          have zz : zeros 1 [.int .i64 0] = [.int .i64 0] := rfl
          try simp (disch := first | omega | (simp only [ints_length, List.length_replicate, List.length_set, colL_length]; done) | (simp only [ints_length, List.length_replicate, List.length_set, colL_length]; omega)) only [Sall,evalOp,init,binE,binI,unE,convE,okNil,builtE,gv,TD.isAgg,resV,↓reduceIte,Nat.reduceEqDiff,reduceCtorEq,Nat.reduceAdd,Nat.reduceMul,Nat.reduceLeDiff,quietOp,blindOp,Int.reduceEq,Int.reduceLT,Int.reduceLE,Nat.reduceLT,ti2,ti3,ti4,ti79,ti80,ti28,ti25,ti31,ti22,ti33,ti24,ti67,ti111,ti145,ti136,ti137,ti117,ti100, h7, h6, h5, h0, h1, hr, hy, hok, hr7, g1, zz, slCells]
          (repeat refine And.intro (by omega) ?_)
          obtain ⟨H4, e4⟩ : ∃ H4, H4 = H2.push ⟨2, true, [.int .i64 ((ll.getD b []).getD a 0)]⟩ := ⟨_, rfl⟩
          have n4 : H4.next = H2.next + 1 := by rw [e4]; rfl
          have s4 : ∀ i, i < H2.next → H4.row i = H2.row i := fun i hi => by rw [e4, AH.push_row, if_neg (by omega)]
          rw [← e4]
          clear e4
          refine appE_fr (k := 1) (lo := lo) (hi := hi) (l := colL ll a b) (m := [(ll.getD b []).getD a 0]) (hw.same fun i _ hi => s4 i (by omega)) rfl (by omega) rfl (by omega) (by decide) (by omega) (by omega) ?_
          intro v' H5 n5 s5 f5
          try simp (disch := first | omega | (simp only [ints_length, List.length_replicate, List.length_set, colL_length]; done) | (simp only [ints_length, List.length_replicate, List.length_set, colL_length]; omega)) only [Sall,evalOp,init,binE,binI,unE,convE,okNil,builtE,gv,TD.isAgg,resV,↓reduceIte,Nat.reduceEqDiff,reduceCtorEq,Nat.reduceAdd,Nat.reduceMul,Nat.reduceLeDiff,quietOp,blindOp,Int.reduceEq,Int.reduceLT,Int.reduceLE,Nat.reduceLT,ti2,ti3,ti4,ti79,ti80,ti28,ti25,ti31,ti22,ti33,ti24,ti67,ti111,ti145,ti136,ti137,ti117,ti100, h7, h5, h0, h1, w64]
          refine ⟨m - (b + 1), by omega, b + 1, v', H4.next, H4.next + 1, rfl, by omega, rfl, rfl, ⟨by omega, fun i hi => by rw [s5 i (by omega) (by omega), s4 i (by omega), hup2.row i hi]⟩, by omega, by omega, by omega, ?_⟩
          rw [colL_succ]; exact f5
        · have hb2 : b = m := by omega
          subst hb2
          obtain ⟨i, o, u, c, r, y, my, rfl, hr, hy, hsx, hok⟩ := hx2.get (j := a) (by omega)
          have hmm := hsx.lenK1
          rw [hmm] at hsx
          have hla := (hin a (by omega)).1
          try simp (disch := first | omega | (simp only [ints_length, List.length_replicate, List.length_set, colL_length]; done) | (simp only [ints_length, List.length_replicate, List.length_set, colL_length]; omega)) only [Sall,evalOp,init,binE,binI,unE,convE,okNil,builtE,gv,TD.isAgg,resV,↓reduceIte,Nat.reduceEqDiff,reduceCtorEq,Nat.reduceAdd,Nat.reduceMul,Nat.reduceLeDiff,quietOp,blindOp,Int.reduceEq,Int.reduceLT,Int.reduceLE,Nat.reduceLT,ti2,ti3,ti4,ti79,ti80,ti28,ti25,ti31,ti22,ti33,ti24,ti67,ti111,ti145,ti136,ti137,ti117,ti100, h6, h5, h0, h1, hr, hy, hok]
          (repeat refine And.intro (by omega) ?_)
          refine (l01Order_c b (by omega) y _ H2 hsx (by omega)).to ?_
          cases ho1 : ordB b (ll.getD a []) with
          | false =>
            try simp (disch := first | omega | (simp only [ints_length, List.length_replicate, List.length_set, colL_length]; done) | (simp only [ints_length, List.length_replicate, List.length_set, colL_length]; omega)) only [Sall,evalOp,init,binE,binI,unE,convE,okNil,builtE,gv,TD.isAgg,resV,↓reduceIte,Nat.reduceEqDiff,reduceCtorEq,Nat.reduceAdd,Nat.reduceMul,Nat.reduceLeDiff,quietOp,blindOp,Int.reduceEq,Int.reduceLT,Int.reduceLE,Nat.reduceLT,ti2,ti3,ti4,ti79,ti80,ti28,ti25,ti31,ti22,ti33,ti24,ti67,ti111,ti145,ti136,ti137,ti117,ti100, Bool.not_false]
            unfold latB
            rw [all_false_of (i := a) (by omega) (by unfold latAt; rw [ho1, Bool.false_and])]
            exact ⟨rfl, hU2⟩
          | true =>
            have hcl := colL_length ll a b
            have hw3 : Rd 1 H2 w (colL ll a b).length (colL ll a b) := by rw [hcl]; exact hw.rd
            try simp (disch := first | omega | (simp only [ints_length, List.length_replicate, List.length_set, colL_length]; done) | (simp only [ints_length, List.length_replicate, List.length_set, colL_length]; omega)) only [Sall,evalOp,init,binE,binI,unE,convE,okNil,builtE,gv,TD.isAgg,resV,↓reduceIte,Nat.reduceEqDiff,reduceCtorEq,Nat.reduceAdd,Nat.reduceMul,Nat.reduceLeDiff,quietOp,blindOp,Int.reduceEq,Int.reduceLT,Int.reduceLE,Nat.reduceLT,ti2,ti3,ti4,ti79,ti80,ti28,ti25,ti31,ti22,ti33,ti24,ti67,ti111,ti145,ti136,ti137,ti117,ti100, Bool.not_true, h6, h5, h0, h1]
            refine (l01Order_c b (by omega) w _ H2 hw3 (by omega)).to ?_
            cases ho2 : ordB b (colL ll a b) with
            | false =>
              try simp (disch := first | omega | (simp only [ints_length, List.length_replicate, List.length_set, colL_length]; done) | (simp only [ints_length, List.length_replicate, List.length_set, colL_length]; omega)) only [Sall,evalOp,init,binE,binI,unE,convE,okNil,builtE,gv,TD.isAgg,resV,↓reduceIte,Nat.reduceEqDiff,reduceCtorEq,Nat.reduceAdd,Nat.reduceMul,Nat.reduceLeDiff,quietOp,blindOp,Int.reduceEq,Int.reduceLT,Int.reduceLE,Nat.reduceLT,ti2,ti3,ti4,ti79,ti80,ti28,ti25,ti31,ti22,ti33,ti24,ti67,ti111,ti145,ti136,ti137,ti117,ti100, Bool.not_false]
              unfold latB
              rw [all_false_of (i := a) (by omega) (by unfold latAt; rw [ho2, Bool.and_false])]
              exact ⟨rfl, hU2⟩
            | true =>
              try simp (disch := first | omega | (simp only [ints_length, List.length_replicate, List.length_set, colL_length]; done) | (simp only [ints_length, List.length_replicate, List.length_set, colL_length]; omega)) only [Sall,evalOp,init,binE,binI,unE,convE,okNil,builtE,gv,TD.isAgg,resV,↓reduceIte,Nat.reduceEqDiff,reduceCtorEq,Nat.reduceAdd,Nat.reduceMul,Nat.reduceLeDiff,quietOp,blindOp,Int.reduceEq,Int.reduceLT,Int.reduceLE,Nat.reduceLT,ti2,ti3,ti4,ti79,ti80,ti28,ti25,ti31,ti22,ti33,ti24,ti67,ti111,ti145,ti136,ti137,ti117,ti100, Bool.not_true, h5, h0, h1, w64]
              refine ⟨b - (a + 1), by omega, a + 1, rfl, by omega, rfl, hU2, fun i hi => ?_⟩
              by_cases e : i = a
              · rw [e]; unfold latAt; rw [ho1, ho2]; rfl
              · exact hall i (by omega)
    · try simp (disch := first | omega | (simp only [ints_length, List.length_replicate, List.length_set, colL_length]; done) | (simp only [ints_length, List.length_replicate, List.length_set, colL_length]; omega)) only [Sall,evalOp,init,binE,binI,unE,convE,okNil,builtE,gv,TD.isAgg,resV,↓reduceIte,Nat.reduceEqDiff,reduceCtorEq,Nat.reduceAdd,Nat.reduceMul,Nat.reduceLeDiff,quietOp,blindOp,Int.reduceEq,Int.reduceLT,Int.reduceLE,Nat.reduceLT,ti2,ti3,ti4,ti79,ti80,ti28,ti25,ti31,ti22,ti33,ti24,ti67,ti111,ti145,ti136,ti137,ti117,ti100, true_and]
      unfold latB
      rw [all_true_of fun i hi => hall i (by omega)]
      exact ⟨rfl, hup⟩

theorem specIsSquareOf_c (n : Int) (x : Value) (ll : List (List Int)) (H : AH) (hn : -9223372036854775808 ≤ n ∧ n ≤ 9223372036854775807) (hx : Rd2 1 H x ll) (hl : ll.length ≤ 4294967296) (hl2 : ∀ r ∈ ll, r.length ≤ 4294967296) :
    ACalls Try.prog 44 [.int .i64 n, x] H (is (.tuple #[.bool (sqoB n ll), .int .i64 (sqoC n ll)]) H) := by
  refine acalls_of_awp [.tmp 4, .tmp 5] Try.func44 (by kernel_rfl) rfl rfl (Nat.le_of_ble_eq_true rfl) (by kernel_rfl) ?_
  try simp (disch := first | omega | (simp only [ints_length, List.length_replicate, List.length_set, colL_length]; done) | (simp only [ints_length, List.length_replicate, List.length_set, colL_length]; omega)) only [Sall,evalOp,init,binE,binI,unE,convE,okNil,builtE,gv,TD.isAgg,resV,↓reduceIte,Nat.reduceEqDiff,reduceCtorEq,Nat.reduceAdd,Nat.reduceMul,Nat.reduceLeDiff,quietOp,blindOp,Int.reduceEq,Int.reduceLT,Int.reduceLE,Nat.reduceLT,ti2,ti3,ti4,ti79,ti80,ti28,ti25,ti31,ti22,ti33,ti24,ti67,ti111,ti145,ti136,ti137,ti117,ti100, true_and]
  refine (l09Rows_c n x ll H hx hl hl2).to ?_
  unfold sqoC sqoB
  cases hb : haveB n ll with
  | true =>
    obtain ⟨m, rfl, h1, h2, h3, h4⟩ := haveB_at hb
    try simp (disch := first | omega | (simp only [ints_length, List.length_replicate, List.length_set, colL_length]; done) | (simp only [ints_length, List.length_replicate, List.length_set, colL_length]; omega)) only [Sall,evalOp,init,binE,binI,unE,convE,okNil,builtE,gv,TD.isAgg,resV,↓reduceIte,Nat.reduceEqDiff,reduceCtorEq,Nat.reduceAdd,Nat.reduceMul,Nat.reduceLeDiff,quietOp,blindOp,Int.reduceEq,Int.reduceLT,Int.reduceLE,Nat.reduceLT,ti2,ti3,ti4,ti79,ti80,ti28,ti25,ti31,ti22,ti33,ti24,ti67,ti111,ti145,ti136,ti137,ti117,ti100, bne_self_eq_false]
    refine (l09Square_c m x ll H hx h3 h2 h4).to ?_
    try simp (disch := first | omega | (simp only [ints_length, List.length_replicate, List.length_set, colL_length]; done) | (simp only [ints_length, List.length_replicate, List.length_set, colL_length]; omega)) only [Sall,evalOp,init,binE,binI,unE,convE,okNil,builtE,gv,TD.isAgg,resV,↓reduceIte,Nat.reduceEqDiff,reduceCtorEq,Nat.reduceAdd,Nat.reduceMul,Nat.reduceLeDiff,quietOp,blindOp,Int.reduceEq,Int.reduceLT,Int.reduceLE,Nat.reduceLT,ti2,ti3,ti4,ti79,ti80,ti28,ti25,ti31,ti22,ti33,ti24,ti67,ti111,ti145,ti136,ti137,ti117,ti100, is, Bool.true_and, Int.toNat_natCast]
  | false =>
    have e : ((2 : Int) != 0) = true := by decide
    try simp (disch := first | omega | (simp only [ints_length, List.length_replicate, List.length_set, colL_length]; done) | (simp only [ints_length, List.length_replicate, List.length_set, colL_length]; omega)) only [Sall,evalOp,init,binE,binI,unE,convE,okNil,builtE,gv,TD.isAgg,resV,↓reduceIte,Nat.reduceEqDiff,reduceCtorEq,Nat.reduceAdd,Nat.reduceMul,Nat.reduceLeDiff,quietOp,blindOp,Int.reduceEq,Int.reduceLT,Int.reduceLE,Nat.reduceLT,ti2,ti3,ti4,ti79,ti80,ti28,ti25,ti31,ti22,ti33,ti24,ti67,ti111,ti145,ti136,ti137,ti117,ti100, e, is, Bool.false_and]

theorem IsSquareOf_c (n : Int) (x : Value) (ll : List (List Int)) (H : AH) (hn : -9223372036854775808 ≤ n ∧ n ≤ 9223372036854775807) (hx : Rd2 1 H x ll) (hl : ll.length ≤ 4294967296) (hl2 : ∀ r ∈ ll, r.length ≤ 4294967296) :
    ACalls Try.prog 45 [.int .i64 n, x] H (is (.tuple #[.bool (sqoB n ll), .int .i64 (sqoC n ll)]) H) := by
  refine acalls_of_awp [.tmp 4, .tmp 5] Try.func45 (by kernel_rfl) rfl rfl (Nat.le_of_ble_eq_true rfl) (by kernel_rfl) ?_
  try simp (disch := first | omega | (simp only [ints_length, List.length_replicate, List.length_set, colL_length]; done) | (simp only [ints_length, List.length_replicate, List.length_set, colL_length]; omega)) only [Sall,evalOp,init,binE,binI,unE,convE,okNil,builtE,gv,TD.isAgg,resV,↓reduceIte,Nat.reduceEqDiff,reduceCtorEq,Nat.reduceAdd,Nat.reduceMul,Nat.reduceLeDiff,quietOp,blindOp,Int.reduceEq,Int.reduceLT,Int.reduceLE,Nat.reduceLT,ti2,ti3,ti4,ti79,ti80,ti28,ti25,ti31,ti22,ti33,ti24,ti67,ti111,ti145,ti136,ti137,ti117,ti100, true_and]
  refine (haveSquare_c n x ll H hx hl hl2).to ?_
  unfold sqoC sqoB
  cases hb : haveB n ll with
  | true =>
    obtain ⟨m, rfl, h1, h2, h3, h4⟩ := haveB_at hb
    try simp (disch := first | omega | (simp only [ints_length, List.length_replicate, List.length_set, colL_length]; done) | (simp only [ints_length, List.length_replicate, List.length_set, colL_length]; omega)) only [Sall,evalOp,init,binE,binI,unE,convE,okNil,builtE,gv,TD.isAgg,resV,↓reduceIte,Nat.reduceEqDiff,reduceCtorEq,Nat.reduceAdd,Nat.reduceMul,Nat.reduceLeDiff,quietOp,blindOp,Int.reduceEq,Int.reduceLT,Int.reduceLE,Nat.reduceLT,ti2,ti3,ti4,ti79,ti80,ti28,ti25,ti31,ti22,ti33,ti24,ti67,ti111,ti145,ti136,ti137,ti117,ti100, Bool.not_true]
    refine (isLatin_c m x ll H hx h3 h2 h4).to ?_
    try simp (disch := first | omega | (simp only [ints_length, List.length_replicate, List.length_set, colL_length]; done) | (simp only [ints_length, List.length_replicate, List.length_set, colL_length]; omega)) only [Sall,evalOp,init,binE,binI,unE,convE,okNil,builtE,gv,TD.isAgg,resV,↓reduceIte,Nat.reduceEqDiff,reduceCtorEq,Nat.reduceAdd,Nat.reduceMul,Nat.reduceLeDiff,quietOp,blindOp,Int.reduceEq,Int.reduceLT,Int.reduceLE,Nat.reduceLT,ti2,ti3,ti4,ti79,ti80,ti28,ti25,ti31,ti22,ti33,ti24,ti67,ti111,ti145,ti136,ti137,ti117,ti100, is, Bool.true_and, Int.toNat_natCast]
  | false =>
    try simp (disch := first | omega | (simp only [ints_length, List.length_replicate, List.length_set, colL_length]; done) | (simp only [ints_length, List.length_replicate, List.length_set, colL_length]; omega)) only [Sall,evalOp,init,binE,binI,unE,convE,okNil,builtE,gv,TD.isAgg,resV,↓reduceIte,Nat.reduceEqDiff,reduceCtorEq,Nat.reduceAdd,Nat.reduceMul,Nat.reduceLeDiff,quietOp,blindOp,Int.reduceEq,Int.reduceLT,Int.reduceLE,Nat.reduceLT,ti2,ti3,ti4,ti79,ti80,ti28,ti25,ti31,ti22,ti33,ti24,ti67,ti111,ti145,ti136,ti137,ti117,ti100, Bool.not_false, is, Bool.false_and]
end Go.Proofs.Ytbmpkihggipciaa.A
end

section
set_option linter.unusedSimpArgs false
set_option linter.unusedVariables false
namespace Go.Abs
open Go Go.RowKit

/-- x reads y out of rows in [lo, hi) other than i. -/
def Pt (lo hi i : Nat) (H : AH) (x : Value) (y : List Int) : Prop := ∀ H', (∀ z r, lo ≤ z → z < hi → ¬ z = i → H.row z = some r → H'.row z = some r) → Rd 1 H' x y.length y

def FrV (ty lo hi : Nat) (H : AH) (v : Value) (ll : List (List Int)) : Prop :=
  (ll = [] ∧ v = .slice none 0 0) ∨ ∃ i vs, lo ≤ i ∧ i < hi ∧ v = .slice (some ⟨i, 0, some 1⟩) ll.length ll.length ∧ H.row i = some ⟨ty, true, vs⟩ ∧ vs.length = ll.length ∧ ∀ j, j < ll.length → ∃ x, vs[j]? = some x ∧ Pt lo hi i H x (ll.getD j [])

theorem FrV.same {ty lo hi : Nat} {H H' : AH} {v : Value} {ll : List (List Int)} (h : FrV ty lo hi H v ll) (hs : ∀ i, lo ≤ i → i < hi → H'.row i = H.row i) : FrV ty lo hi H' v ll := by
  rcases h with h | ⟨i, vs, h1, h2, hv, hr, hl, hj⟩
  · exact .inl h
  · refine .inr ⟨i, vs, h1, h2, hv, by rw [hs i h1 h2]; exact hr, hl, fun j hjl => ?_⟩
    obtain ⟨x, hx, hp⟩ := hj j hjl
    exact ⟨x, hx, fun H2 h2 => hp H2 fun z r z1 z2 z3 hz => h2 z r z1 z2 z3 (by rw [hs z z1 z2]; exact hz)⟩
theorem FrV.wide {ty lo hi lo' hi' : Nat} {H : AH} {v : Value} {ll : List (List Int)} (h : FrV ty lo hi H v ll) (a : lo' ≤ lo) (c : hi ≤ hi') : FrV ty lo' hi' H v ll := by
  rcases h with h | ⟨i, vs, h1, h2, hv, hr, hl, hj⟩
  · exact .inl h
  · refine .inr ⟨i, vs, by omega, by omega, hv, hr, hl, fun j hjl => ?_⟩
    obtain ⟨x, hx, hp⟩ := hj j hjl
    exact ⟨x, hx, fun H2 h2 => hp H2 fun z r z1 z2 z3 hz => h2 z r (by omega) (by omega) z3 hz⟩
theorem FrV.rd {ty lo hi : Nat} {H : AH} {v : Value} {ll : List (List Int)} (h : FrV ty lo hi H v ll) : Rd2 1 H v ll := by
  rcases h with ⟨h1, h2⟩ | ⟨i, vs, h1, h2, rfl, hr, hl, hj⟩
  · exact .inl ⟨h1, none, 0, h2, fun _ => rfl⟩
  · refine .inr ⟨i, 0, some 1, _, _, rfl, hr, fun j hjl => ?_⟩
    obtain ⟨x, hx, hp⟩ := hj j hjl
    exact ⟨x, _, by simpa using hx, hp H fun _ _ _ _ _ h => h⟩
theorem Fr2.frV {ty ty' lo hi : Nat} {H : AH} {v : Value} {ll : List (List Int)} (h : Fr2 1 ty ty' lo hi H v ll) : FrV ty lo hi H v ll := by
  rcases h with h | ⟨i, vs, b, h1, h2, rfl, hr, hl, g0, gn, gi, gm, hh⟩
  · exact .inl h
  · refine .inr ⟨i, vs, h1, h2, rfl, hr, hl, fun j hjl => ?_⟩
    obtain ⟨x, m, hx, hf⟩ := hh j hjl
    have m1 := mono_of_step gm (Nat.zero_le j)
    have m2 := mono_of_step gm (show j + 1 ≤ ll.length from hjl)
    refine ⟨x, hx, fun H2 h2 => ?_⟩
    have hm := hf.lenK1
    refine hm ▸ Fr.rd (ty := ty') (lo := b j) (hi := b (j + 1)) ⟨hf.1, ?_⟩
    rcases hf.2 with h3 | ⟨q, q1, q2, q3, q4⟩
    · exact .inl h3
    · exact .inr ⟨q, q1, q2, q3, h2 q _ (by omega) (by omega) (by omega) q4⟩

theorem seg_whole (l : List Value) (n : Nat) (h : l.length = n) : seg l 0 n = l := seg_all _ _ h.symm

/-- Slices of slices, one appended to the other. -/
theorem appE_frV {P : Program} {E : TI} {ty lo hi lo' hi' : Nat} {H : AH} {v x : Value} {ll ll' : List (List Int)} {K : Value → AH → Prop} (h : FrV ty lo hi H v ll) (hx : FrV ty lo' hi' H x ll') (hE : E.size = 1) (hb : E.bytes ≤ 32768) (hn : ll.length + ll'.length ≤ 4294967296) (hlo : lo ≤ hi) (hhi : hi ≤ lo') (hhi' : hi' ≤ H.next) (hhN : hi ≤ H.next)
    (hK : ∀ v' H', H.next ≤ H'.next → (∀ i, ¬(lo ≤ i ∧ i < hi) → i < H.next → H'.row i = H.row i) → FrV ty lo H'.next H' v' (ll ++ ll') → K v' H') :
    runOut P H (slCells H E.size x fun xs m => appE E ty v xs m H) K := by
  have none0 : ll' = [] → runOut P H (appE E ty v [] 0 H) K := by
    intro e0
    rw [e0] at hK
    clear hx
    unfold appE
    rw [if_pos rfl]
    refine Holds.mp ?_
    rcases h with ⟨rfl, rfl⟩ | ⟨i, vs, h1, h2, rfl, hr, hl, hj⟩ <;> rw [holds_def]
    · simp only [asSl_nil, runOut_val]
      exact hK _ _ (Nat.le_refl _) (fun _ _ _ => rfl) (.inl ⟨rfl, rfl⟩)
    · simp only [asSl_some, runOut_need, runOut_val]
      refine ⟨(fun h => by cases h), hK _ _ (Nat.le_refl _) (fun _ _ _ => rfl) ?_⟩
      rw [List.append_nil]
      exact FrV.wide (lo := lo) (hi := hi) (.inr ⟨i, vs, h1, h2, rfl, hr, hl, hj⟩) (Nat.le_refl _) hhN
  refine Holds.mp ?_
  rcases hx with ⟨e0, rfl⟩ | ⟨i', vs', q1, q2, rfl, qr, ql, qj⟩ <;> rw [holds_def]
  · unfold slCells
    simp only [asSl_nil]
    exact none0 e0
  · unfold slCells
    simp only [asSl_some, qr, bindO_some, runOut_need, hE, Nat.mul_one, Nat.zero_add]
    refine ⟨⟨by omega, .inl rfl⟩, ?_⟩
    rw [seg_whole _ _ ql]
    by_cases h0 : ll'.length = 0
    · have e0 : ll' = [] := List.eq_nil_of_length_eq_zero h0
      have ev : vs' = [] := List.eq_nil_of_length_eq_zero (by omega)
      rw [ev, h0]
      exact none0 e0
    · have inner : ∀ (H2 : AH), H.next < H2.next → (∀ z r, lo' ≤ z → z < hi' → ¬ z = i' → H.row z = some r → H2.row z = some r) → ∀ j, j < ll'.length → ∃ y, vs'[j]? = some y ∧ Pt lo H2.next H.next H2 y (ll'.getD j []) := by
        intro H2 hn2 hs2 j hj
        obtain ⟨y, hy, hp⟩ := qj j hj
        exact ⟨y, hy, fun H3 h3 => hp H3 fun z r z1 z2 z3 hz => h3 z r (by omega) (by omega) (by omega) (hs2 z r z1 z2 z3 hz)⟩
      unfold appE
      rw [if_neg h0]
      refine Holds.mp ?_
      rcases h with ⟨rfl, rfl⟩ | ⟨i, vs, h1, h2, rfl, hr, hl, hj⟩ <;> rw [holds_def]
      · simp only [asSl_nil, runOut_need, runOut_val, hE]
        simp only [List.length_nil, Nat.zero_add] at hn
        refine ⟨⟨hn, hb⟩, hK _ _ (Nat.le_succ _) (fun i _ hi => by rw [AH.push_row, if_neg (by omega)]) ?_⟩
        refine .inr ⟨H.next, vs', by omega, by rw [AH.push_next]; omega, rfl, by rw [AH.push_row, if_pos rfl], ql, ?_⟩
        exact inner _ (by rw [AH.push_next]; omega) fun z r z1 z2 _ hz => by rw [AH.push_row, if_neg (by omega)]; exact hz
      · simp only [asSl_some, hr, bindO_some, runOut_need, Nat.zero_add, hE, Nat.mul_one]
        refine ⟨⟨hn, hb, by omega, .inl rfl⟩, ?_⟩
        rw [if_neg (by omega)]
        simp only [runOut_need, runOut_val]
        rw [seg_whole _ _ hl]
        refine ⟨by simp, hK _ _ (by rw [AH.push_next, AH.drop_next]; omega) (fun z hz hz2 => ?_) (.inr ⟨H.next, vs ++ vs', by omega, by rw [AH.push_next, AH.drop_next]; omega, ?_, ?_, ?_, fun j hjl => ?_⟩)⟩
        · rw [AH.push_row, if_neg (by rw [AH.drop_next]; omega), AH.drop_row, if_neg (by omega)]
        · rw [List.length_append]
        · rw [AH.push_row, AH.drop_next, if_pos rfl]
        · rw [List.length_append, List.length_append, hl, ql]
        · rw [List.length_append] at hjl
          have old : ∀ z r, z < H.next → ¬ z = i → H.row z = some r → ((H.drop i).push ⟨ty, true, vs ++ vs'⟩).row z = some r := fun z r z1 z2 hz => by
            rw [AH.push_row, if_neg (by rw [AH.drop_next]; omega), AH.drop_row, if_neg z2]; exact hz
          by_cases c : j < ll.length
          · obtain ⟨y, hy, hp⟩ := hj j c
            refine ⟨y, by rw [List.getElem?_append_left (by omega), hy], ?_⟩
            have e1 : (ll ++ ll').getD j [] = ll.getD j [] := by simp [List.getD_eq_getElem?_getD, List.getElem?_append_left c]
            rw [e1]
            exact fun H3 h3 => hp H3 fun z r z1 z2 z3 hz => h3 z r z1 (by rw [AH.push_next, AH.drop_next]; omega) (by omega) (old z r (by omega) z3 hz)
          · obtain ⟨y, hy, hp⟩ := inner ((H.drop i).push ⟨ty, true, vs ++ vs'⟩) (by rw [AH.push_next, AH.drop_next]; omega) (fun z r z1 z2 z3 hz => old z r (by omega) (by omega) hz) (j - ll.length) (by omega)
            refine ⟨y, by rw [List.getElem?_append_right (by omega), hl]; exact hy, ?_⟩
            have e1 : (ll ++ ll').getD j [] = ll'.getD (j - ll.length) [] := by simp [List.getD_eq_getElem?_getD, List.getElem?_append_right (show ll.length ≤ j by omega)]
            rw [e1]
            exact hp

theorem cells_of_one {v : Value} (h : v.oneCell' = true) : v.cells = #[v] := by
  cases v <;> first | rfl | (simp [Value.oneCell'] at h)
theorem noTuple_of_one {v : Value} (h : v.oneCell' = true) : noTuple v = true := by
  cases v <;> first | rfl | (simp [Value.oneCell'] at h)
end Go.Abs
end

section
set_option linter.unusedSimpArgs false
set_option linter.unusedVariables false
set_option maxRecDepth 100000
set_option maxHeartbeats 2000000
namespace Go.Proofs.Ytbmpkihggipciaa.A
open Go Go.Abs Go.RowKit

theorem tot_le {b : Nat} : ∀ {ll : List (List Int)}, (∀ r ∈ ll, r.length ≤ b) → tot ll ≤ ll.length * b
  | [], _ => by simp [tot]
  | r :: ll, h => by
    have h1 := h r (List.mem_cons_self)
    have h2 := tot_le (ll := ll) fun q hq => h q (List.mem_cons_of_mem _ hq)
    have e : tot (r :: ll) = r.length + tot ll := by simp [tot]
    rw [e, List.length_cons, Nat.succ_mul]
    omega
theorem sqL_bound (y : List Int) : (sqL y).length ≤ 14 ∧ tot (sqL y) ≤ 196 ∧ ∀ r ∈ sqL y, r.length ≤ 14 := by
  obtain ⟨h1, _, h2⟩ := sqL_size y
  refine ⟨h1, ?_, h2⟩
  have := tot_le h2
  omega

theorem SquareOfList0_c (v : Value) (y : List Int) (H : AH) (hv : Rd 1 H v y.length y) (hy : y.length ≤ 4294967296) :
    ACalls Try.prog 42 [v] H (fun r H' => ∃ u, r = .tuple #[u, .int .i64 (sqC y)] ∧ Up H.next H H' ∧ Fr2 1 28 2 H.next H'.next H' u (sqL y)) := by
  refine ACalls.wf (by kernel_rfl) fun hs => acalls_of_awp [.tmp 2, .tmp 3] Try.func42 (by kernel_rfl) rfl rfl (Nat.le_of_ble_eq_true rfl) (by kernel_rfl) ?_
  try simp (disch := first | omega | (simp only [ints_length, List.length_replicate, List.length_set, sqR_length, sqM_length, sqP_length, sqA_length]; done) | (simp only [ints_length, List.length_replicate, List.length_set, sqR_length, sqM_length, sqP_length, sqA_length]; omega)) only [Sall,evalOp,init,binE,binI,unE,convE,okNil,builtE,gv,TD.isAgg,resV,↓reduceIte,Nat.reduceEqDiff,reduceCtorEq,Nat.reduceAdd,Nat.reduceMul,Nat.reduceLeDiff,quietOp,blindOp,Int.reduceEq,Int.reduceLT,Int.reduceLE,Nat.reduceLT,ti2,ti3,ti4,ti79,ti80,ti28,ti25,ti31,ti22,ti33,ti24,ti67,ti111,ti145,ti136,ti137,ti117,ti100, true_and]
  refine (isList_c v y H hv hy).to ?_
  unfold sqC sqL
  cases hb : listB y with
  | false =>
    try simp (disch := first | omega | (simp only [ints_length, List.length_replicate, List.length_set, sqR_length, sqM_length, sqP_length, sqA_length]; done) | (simp only [ints_length, List.length_replicate, List.length_set, sqR_length, sqM_length, sqP_length, sqA_length]; omega)) only [Sall,evalOp,init,binE,binI,unE,convE,okNil,builtE,gv,TD.isAgg,resV,↓reduceIte,Nat.reduceEqDiff,reduceCtorEq,Nat.reduceAdd,Nat.reduceMul,Nat.reduceLeDiff,quietOp,blindOp,Int.reduceEq,Int.reduceLT,Int.reduceLE,Nat.reduceLT,ti2,ti3,ti4,ti79,ti80,ti28,ti25,ti31,ti22,ti33,ti24,ti67,ti111,ti145,ti136,ti137,ti117,ti100, Bool.not_false]
    exact ⟨_, rfl, Up.refl _ _, .inl ⟨rfl, rfl⟩⟩
  | true =>
    obtain ⟨hlen, hin, hnd⟩ := listB_at hb
    try simp (disch := first | omega | (simp only [ints_length, List.length_replicate, List.length_set, sqR_length, sqM_length, sqP_length, sqA_length]; done) | (simp only [ints_length, List.length_replicate, List.length_set, sqR_length, sqM_length, sqP_length, sqA_length]; omega)) only [Sall,evalOp,init,binE,binI,unE,convE,okNil,builtE,gv,TD.isAgg,resV,↓reduceIte,Nat.reduceEqDiff,reduceCtorEq,Nat.reduceAdd,Nat.reduceMul,Nat.reduceLeDiff,quietOp,blindOp,Int.reduceEq,Int.reduceLT,Int.reduceLE,Nat.reduceLT,ti2,ti3,ti4,ti79,ti80,ti28,ti25,ti31,ti22,ti33,ti24,ti67,ti111,ti145,ti136,ti137,ti117,ti100, Bool.not_true]
    refine (size_c v y H hv hy).to ?_
    obtain ⟨n, hn⟩ : ∃ n, n = y.length := ⟨_, rfl⟩
    rw [← hn] at hv hy hlen hin ⊢
    try simp (disch := first | omega | (simp only [ints_length, List.length_replicate, List.length_set, sqR_length, sqM_length, sqP_length, sqA_length]; done) | (simp only [ints_length, List.length_replicate, List.length_set, sqR_length, sqM_length, sqP_length, sqA_length]; omega)) only [Sall,evalOp,init,binE,binI,unE,convE,okNil,builtE,gv,TD.isAgg,resV,↓reduceIte,Nat.reduceEqDiff,reduceCtorEq,Nat.reduceAdd,Nat.reduceMul,Nat.reduceLeDiff,quietOp,blindOp,Int.reduceEq,Int.reduceLT,Int.reduceLE,Nat.reduceLT,ti2,ti3,ti4,ti79,ti80,ti28,ti25,ti31,ti22,ti33,ti24,ti67,ti111,ti145,ti136,ti137,ti117,ti100, true_and]
    refine (square_c n (by omega) H).mono ?_
    rintro u H1 ⟨up1, hf1⟩
    have n1 := up1.next
    refine Holds.mp ?_
    try simp (disch := first | omega | (simp only [ints_length, List.length_replicate, List.length_set, sqR_length, sqM_length, sqP_length, sqA_length]; done) | (simp only [ints_length, List.length_replicate, List.length_set, sqR_length, sqM_length, sqP_length, sqA_length]; omega)) only [Sall,evalOp,init,binE,binI,unE,convE,okNil,builtE,gv,TD.isAgg,resV,↓reduceIte,Nat.reduceEqDiff,reduceCtorEq,Nat.reduceAdd,Nat.reduceMul,Nat.reduceLeDiff,quietOp,blindOp,Int.reduceEq,Int.reduceLT,Int.reduceLE,Nat.reduceLT,ti2,ti3,ti4,ti79,ti80,ti28,ti25,ti31,ti22,ti33,ti24,ti67,ti111,ti145,ti136,ti137,ti117,ti100, true_and]
    refine awp_loop (fun m t H' => ∃ a : Nat, m = n - a ∧ a ≤ n ∧ t 17 = .int .i64 a ∧ t 16 = .int .i64 n ∧ t 0 = v ∧ t 4 = .int .i64 n ∧ t 5 = u ∧ Up H.next H H' ∧ H'.next = H1.next ∧ Fr2 1 28 2 H.next H1.next H' u (sqM n y a 0)) n ?_ ?_
    · refine ⟨0, by omega, by omega, ?_⟩
      try simp (disch := first | omega | (simp only [ints_length, List.length_replicate, List.length_set, sqR_length, sqM_length, sqP_length, sqA_length]; done) | (simp only [ints_length, List.length_replicate, List.length_set, sqR_length, sqM_length, sqP_length, sqA_length]; omega)) only [Sall,evalOp,init,binE,binI,unE,convE,okNil,builtE,gv,TD.isAgg,resV,↓reduceIte,Nat.reduceEqDiff,reduceCtorEq,Nat.reduceAdd,Nat.reduceMul,Nat.reduceLeDiff,quietOp,blindOp,Int.reduceEq,Int.reduceLT,Int.reduceLE,Nat.reduceLT,ti2,ti3,ti4,ti79,ti80,ti28,ti25,ti31,ti22,ti33,ti24,ti67,ti111,ti145,ti136,ti137,ti117,ti100, Int.natCast_zero]
      refine ⟨up1, ?_⟩
      rw [sqM_zero]; exact hf1
    · rintro m t H' ⟨a, hm, han, h17, h16, h0, h4, h5, hup, hnx, hf⟩
      try simp (disch := first | omega | (simp only [ints_length, List.length_replicate, List.length_set, sqR_length, sqM_length, sqP_length, sqA_length]; done) | (simp only [ints_length, List.length_replicate, List.length_set, sqR_length, sqM_length, sqP_length, sqA_length]; omega)) only [Sall,evalOp,init,binE,binI,unE,convE,okNil,builtE,gv,TD.isAgg,resV,↓reduceIte,Nat.reduceEqDiff,reduceCtorEq,Nat.reduceAdd,Nat.reduceMul,Nat.reduceLeDiff,quietOp,blindOp,Int.reduceEq,Int.reduceLT,Int.reduceLE,Nat.reduceLT,ti2,ti3,ti4,ti79,ti80,ti28,ti25,ti31,ti22,ti33,ti24,ti67,ti111,ti145,ti136,ti137,ti117,ti100, h17, h16]
      refine condC_dec (fun h => ?_) (fun h => ?_)
      · have hv' : Rd 1 H' v n y := hv.same fun i r hr => by rw [hup.row i (hs _ _ hr)]; exact hr
        try simp (disch := first | omega | (simp only [ints_length, List.length_replicate, List.length_set, sqR_length, sqM_length, sqP_length, sqA_length]; done) | (simp only [ints_length, List.length_replicate, List.length_set, sqR_length, sqM_length, sqP_length, sqA_length]; omega)) only [Sall,evalOp,init,binE,binI,unE,convE,okNil,builtE,gv,TD.isAgg,resV,↓reduceIte,Nat.reduceEqDiff,reduceCtorEq,Nat.reduceAdd,Nat.reduceMul,Nat.reduceLeDiff,quietOp,blindOp,Int.reduceEq,Int.reduceLT,Int.reduceLE,Nat.reduceLT,ti2,ti3,ti4,ti79,ti80,ti28,ti25,ti31,ti22,ti33,ti24,ti67,ti111,ti145,ti136,ti137,ti117,ti100, h17, h16, h0, h4, h5, builtE, hv'.len]
        refine awp_loop (fun z t H3 => ∃ c : Nat, z = n - c ∧ c ≤ n ∧ t 22 = .int .i64 c ∧ t 21 = .int .i64 n ∧ t 20 = v ∧ t 6 = .int .i64 a ∧ t 17 = .int .i64 a ∧ t 16 = .int .i64 n ∧ t 0 = v ∧ t 4 = .int .i64 n ∧ t 5 = u ∧ Up H.next H H3 ∧ H3.next = H1.next ∧ Fr2 1 28 2 H.next H1.next H3 u (sqM n y a c)) n ?_ ?_
        · refine ⟨0, by omega, by omega, ?_⟩
          try simp (disch := first | omega | (simp only [ints_length, List.length_replicate, List.length_set, sqR_length, sqM_length, sqP_length, sqA_length]; done) | (simp only [ints_length, List.length_replicate, List.length_set, sqR_length, sqM_length, sqP_length, sqA_length]; omega)) only [Sall,evalOp,init,binE,binI,unE,convE,okNil,builtE,gv,TD.isAgg,resV,↓reduceIte,Nat.reduceEqDiff,reduceCtorEq,Nat.reduceAdd,Nat.reduceMul,Nat.reduceLeDiff,quietOp,blindOp,Int.reduceEq,Int.reduceLT,Int.reduceLE,Nat.reduceLT,ti2,ti3,ti4,ti79,ti80,ti28,ti25,ti31,ti22,ti33,ti24,ti67,ti111,ti145,ti136,ti137,ti117,ti100, Int.natCast_zero, h17, h16, h0, h4, h5]
          exact ⟨hup, hnx, hf⟩
        · rintro z t H3 ⟨c, hz, hcn, h22, h21, h20, h6, h17, h16, h0, h4, h5, hup3, hnx3, hf3⟩
          try simp (disch := first | omega | (simp only [ints_length, List.length_replicate, List.length_set, sqR_length, sqM_length, sqP_length, sqA_length]; done) | (simp only [ints_length, List.length_replicate, List.length_set, sqR_length, sqM_length, sqP_length, sqA_length]; omega)) only [Sall,evalOp,init,binE,binI,unE,convE,okNil,builtE,gv,TD.isAgg,resV,↓reduceIte,Nat.reduceEqDiff,reduceCtorEq,Nat.reduceAdd,Nat.reduceMul,Nat.reduceLeDiff,quietOp,blindOp,Int.reduceEq,Int.reduceLT,Int.reduceLE,Nat.reduceLT,ti2,ti3,ti4,ti79,ti80,ti28,ti25,ti31,ti22,ti33,ti24,ti67,ti111,ti145,ti136,ti137,ti117,ti100, h22, h21]
          refine condC_dec (fun hh => ?_) (fun hh => ?_)
          · have hv3 : Rd 1 H3 v n y := hv.same fun i r hr => by rw [hup3.row i (hs _ _ hr)]; exact hr
            obtain ⟨i, o, uu, cc, r, rfl, hr, hc, hg, _⟩ := hv3.get (by omega)
            have g1 := hg c (by omega)
            have hx := getD_in hin (j := c) (by omega)
            have hMl := sqM_length n y a c
            have hrow := sqM_getD n y a c (by omega)
            have hrl := sqR_length n y a c
            obtain ⟨mi, mvs, i6, rfl, q1, q2, q3, q4, q5, q6, q7, q8, q9⟩ := hf3.setF (j := a) (by omega) (by rw [hrow]; omega)
            rw [hrow] at q4 q8 q9
            rw [hMl] at q9
            rw [hrl] at q4
            have hE : Int.tmod ((a : Int) + y.getD c 0) n = sqE n a y c := rfl
            have hEr := sqE_range (n := n) (i := a) (y := y) (j := c) (by omega) hx.1
            revert g1 hE
            generalize hxx : y.getD c 0 = x at hx
            intro g1 hE
            try simp (disch := first | omega | (simp only [ints_length, List.length_replicate, List.length_set, sqR_length, sqM_length, sqP_length, sqA_length]; done) | (simp only [ints_length, List.length_replicate, List.length_set, sqR_length, sqM_length, sqP_length, sqA_length]; omega)) only [Sall,evalOp,init,binE,binI,unE,convE,okNil,builtE,gv,TD.isAgg,resV,↓reduceIte,Nat.reduceEqDiff,reduceCtorEq,Nat.reduceAdd,Nat.reduceMul,Nat.reduceLeDiff,quietOp,blindOp,Int.reduceEq,Int.reduceLT,Int.reduceLE,Nat.reduceLT,ti2,ti3,ti4,ti79,ti80,ti28,ti25,ti31,ti22,ti33,ti24,ti67,ti111,ti145,ti136,ti137,ti117,ti100, h22, h21, h20, h6, h17, h16, h0, h4, h5, hr, g1, hMl]
            (repeat refine And.intro (by omega) ?_)
            refine draw_id (by kernel_rfl) (by kernel_rfl) ?_
            try simp (disch := first | omega | (simp only [ints_length, List.length_replicate, List.length_set, sqR_length, sqM_length, sqP_length, sqA_length]; done) | (simp only [ints_length, List.length_replicate, List.length_set, sqR_length, sqM_length, sqP_length, sqA_length]; omega)) only [Sall,evalOp,init,binE,binI,unE,convE,okNil,builtE,gv,TD.isAgg,resV,↓reduceIte,Nat.reduceEqDiff,reduceCtorEq,Nat.reduceAdd,Nat.reduceMul,Nat.reduceLeDiff,quietOp,blindOp,Int.reduceEq,Int.reduceLT,Int.reduceLE,Nat.reduceLT,ti2,ti3,ti4,ti79,ti80,ti28,ti25,ti31,ti22,ti33,ti24,ti67,ti111,ti145,ti136,ti137,ti117,ti100, h22, h21, h20, h6, h17, h16, h0, h4, h5, hr, g1, hMl, q3, q4, q8, ints_set, w64, hE]
            (repeat refine And.intro (by omega) ?_)
            have q10 := q9 (sqR n y a (c + 1)) (by rw [sqR_length, hrl])
            rw [sqM_set n y a c (by omega) (by omega)] at q10
            rw [sqR_set n y a c (by omega)]
            exact ⟨.inr (.inl (by kernel_rfl)), n - (c + 1), by omega, c + 1, rfl, by omega, rfl, hup3.set q5 _, hnx3, q10⟩
          · try simp (disch := first | omega | (simp only [ints_length, List.length_replicate, List.length_set, sqR_length, sqM_length, sqP_length, sqA_length]; done) | (simp only [ints_length, List.length_replicate, List.length_set, sqR_length, sqM_length, sqP_length, sqA_length]; omega)) only [Sall,evalOp,init,binE,binI,unE,convE,okNil,builtE,gv,TD.isAgg,resV,↓reduceIte,Nat.reduceEqDiff,reduceCtorEq,Nat.reduceAdd,Nat.reduceMul,Nat.reduceLeDiff,quietOp,blindOp,Int.reduceEq,Int.reduceLT,Int.reduceLE,Nat.reduceLT,ti2,ti3,ti4,ti79,ti80,ti28,ti25,ti31,ti22,ti33,ti24,ti67,ti111,ti145,ti136,ti137,ti117,ti100, h17, h16, h0, h4, h5, w64]
            have hc : c = n := by omega
            subst hc
            refine ⟨c - (a + 1), by omega, a + 1, rfl, by omega, rfl, hup3, hnx3, ?_⟩
            rw [← sqM_next]; exact hf3
      · have ha : a = n := by omega
        subst ha
        try simp (disch := first | omega | (simp only [ints_length, List.length_replicate, List.length_set, sqR_length, sqM_length, sqP_length, sqA_length]; done) | (simp only [ints_length, List.length_replicate, List.length_set, sqR_length, sqM_length, sqP_length, sqA_length]; omega)) only [Sall,evalOp,init,binE,binI,unE,convE,okNil,builtE,gv,TD.isAgg,resV,↓reduceIte,Nat.reduceEqDiff,reduceCtorEq,Nat.reduceAdd,Nat.reduceMul,Nat.reduceLeDiff,quietOp,blindOp,Int.reduceEq,Int.reduceLT,Int.reduceLE,Nat.reduceLT,ti2,ti3,ti4,ti79,ti80,ti28,ti25,ti31,ti22,ti33,ti24,ti67,ti111,ti145,ti136,ti137,ti117,ti100, h5]
        refine ⟨u, rfl, hup, ?_⟩
        rw [sqM_all] at hf
        exact hf.wide (Nat.le_refl _) (by omega)
theorem specSquareOfList0_c (v : Value) (y : List Int) (H : AH) (hv : Rd 1 H v y.length y) (hy : y.length ≤ 4294967296) :
    ACalls Try.prog 41 [v] H (fun r H' => ∃ u, r = .tuple #[u, .int .i64 (sqC y)] ∧ Up H.next H H' ∧ Fr2 1 28 2 H.next H'.next H' u (sqL y)) := by
  refine ACalls.wf (by kernel_rfl) fun hs => acalls_of_awp [.tmp 2, .tmp 3] Try.func41 (by kernel_rfl) rfl rfl (Nat.le_of_ble_eq_true rfl) (by kernel_rfl) ?_
  try simp (disch := first | omega | (simp only [ints_length, List.length_replicate, List.length_set, sqR_length, sqM_length, sqP_length, sqA_length]; done) | (simp only [ints_length, List.length_replicate, List.length_set, sqR_length, sqM_length, sqP_length, sqA_length]; omega)) only [Sall,evalOp,init,binE,binI,unE,convE,okNil,builtE,gv,TD.isAgg,resV,↓reduceIte,Nat.reduceEqDiff,reduceCtorEq,Nat.reduceAdd,Nat.reduceMul,Nat.reduceLeDiff,quietOp,blindOp,Int.reduceEq,Int.reduceLT,Int.reduceLE,Nat.reduceLT,ti2,ti3,ti4,ti79,ti80,ti28,ti25,ti31,ti22,ti33,ti24,ti67,ti111,ti145,ti136,ti137,ti117,ti100, true_and]
  refine (l09List_c v y H hv hy).to ?_
  unfold sqC sqL
  cases hb : listB y with
  | false =>
    try simp (disch := first | omega | (simp only [ints_length, List.length_replicate, List.length_set, sqR_length, sqM_length, sqP_length, sqA_length]; done) | (simp only [ints_length, List.length_replicate, List.length_set, sqR_length, sqM_length, sqP_length, sqA_length]; omega)) only [Sall,evalOp,init,binE,binI,unE,convE,okNil,builtE,gv,TD.isAgg,resV,↓reduceIte,Nat.reduceEqDiff,reduceCtorEq,Nat.reduceAdd,Nat.reduceMul,Nat.reduceLeDiff,quietOp,blindOp,Int.reduceEq,Int.reduceLT,Int.reduceLE,Nat.reduceLT,ti2,ti3,ti4,ti79,ti80,ti28,ti25,ti31,ti22,ti33,ti24,ti67,ti111,ti145,ti136,ti137,ti117,ti100, Bool.not_false]
    exact ⟨_, rfl, Up.refl _ _, .inl ⟨rfl, rfl⟩⟩
  | true =>
    obtain ⟨hlen, hin, hnd⟩ := listB_at hb
    obtain ⟨n, hn⟩ : ∃ n, n = y.length := ⟨_, rfl⟩
    rw [← hn] at hv hy hlen hin ⊢
    try simp (disch := first | omega | (simp only [ints_length, List.length_replicate, List.length_set, sqR_length, sqM_length, sqP_length, sqA_length]; done) | (simp only [ints_length, List.length_replicate, List.length_set, sqR_length, sqM_length, sqP_length, sqA_length]; omega)) only [Sall,evalOp,init,binE,binI,unE,convE,okNil,builtE,gv,TD.isAgg,resV,↓reduceIte,Nat.reduceEqDiff,reduceCtorEq,Nat.reduceAdd,Nat.reduceMul,Nat.reduceLeDiff,quietOp,blindOp,Int.reduceEq,Int.reduceLT,Int.reduceLE,Nat.reduceLT,ti2,ti3,ti4,ti79,ti80,ti28,ti25,ti31,ti22,ti33,ti24,ti67,ti111,ti145,ti136,ti137,ti117,ti100, Bool.not_true, builtE, hv.len, zeros_zero]
    refine awp_loop (fun m t H' => ∃ (a : Nat) (u : Value) (lo hi : Nat), m = n - a ∧ a ≤ n ∧ t 6 = .int .i64 a ∧ t 0 = v ∧ t 4 = .int .i64 n ∧ t 5 = u ∧ Up H.next H H' ∧ H.next ≤ lo ∧ lo ≤ hi ∧ hi ≤ H'.next ∧ Fr2 1 28 2 lo hi H' u (sqA n y a)) n ?_ ?_
    · refine ⟨0, .slice (some ⟨H.next, 0, some 1⟩) 0 0, H.next, H.next + 1, by omega, by omega, ?_⟩
      try simp (disch := first | omega | (simp only [ints_length, List.length_replicate, List.length_set, sqR_length, sqM_length, sqP_length, sqA_length]; done) | (simp only [ints_length, List.length_replicate, List.length_set, sqR_length, sqM_length, sqP_length, sqA_length]; omega)) only [Sall,evalOp,init,binE,binI,unE,convE,okNil,builtE,gv,TD.isAgg,resV,↓reduceIte,Nat.reduceEqDiff,reduceCtorEq,Nat.reduceAdd,Nat.reduceMul,Nat.reduceLeDiff,quietOp,blindOp,Int.reduceEq,Int.reduceLT,Int.reduceLE,Nat.reduceLT,ti2,ti3,ti4,ti79,ti80,ti28,ti25,ti31,ti22,ti33,ti24,ti67,ti111,ti145,ti136,ti137,ti117,ti100, Int.natCast_zero]
      refine ⟨(Up.refl _ H).push (by omega) _, ?_⟩
      (repeat refine And.intro (by omega) ?_)
      exact .inr ⟨H.next, [], fun _ => H.next + 1, by omega, by omega, rfl, by rw [AH.push_row, if_pos rfl], rfl, by dsimp only; omega, by dsimp only; omega, .inl (by dsimp only; omega), fun _ => Nat.le_refl _, fun j hj => by simp [sqA] at hj⟩
    · rintro m t H' ⟨a, u, lo, hi, hm, han, h6, h0, h4, h5, hup, hlo, hlh, hhi, hf⟩
      have hup1 := hup.next
      try simp (disch := first | omega | (simp only [ints_length, List.length_replicate, List.length_set, sqR_length, sqM_length, sqP_length, sqA_length]; done) | (simp only [ints_length, List.length_replicate, List.length_set, sqR_length, sqM_length, sqP_length, sqA_length]; omega)) only [Sall,evalOp,init,binE,binI,unE,convE,okNil,builtE,gv,TD.isAgg,resV,↓reduceIte,Nat.reduceEqDiff,reduceCtorEq,Nat.reduceAdd,Nat.reduceMul,Nat.reduceLeDiff,quietOp,blindOp,Int.reduceEq,Int.reduceLT,Int.reduceLE,Nat.reduceLT,ti2,ti3,ti4,ti79,ti80,ti28,ti25,ti31,ti22,ti33,ti24,ti67,ti111,ti145,ti136,ti137,ti117,ti100, h6, h4]
      refine condC_dec (fun h => ?_) (fun h => ?_)
      · try simp (disch := first | omega | (simp only [ints_length, List.length_replicate, List.length_set, sqR_length, sqM_length, sqP_length, sqA_length]; done) | (simp only [ints_length, List.length_replicate, List.length_set, sqR_length, sqM_length, sqP_length, sqA_length]; omega)) only [Sall,evalOp,init,binE,binI,unE,convE,okNil,builtE,gv,TD.isAgg,resV,↓reduceIte,Nat.reduceEqDiff,reduceCtorEq,Nat.reduceAdd,Nat.reduceMul,Nat.reduceLeDiff,quietOp,blindOp,Int.reduceEq,Int.reduceLT,Int.reduceLE,Nat.reduceLT,ti2,ti3,ti4,ti79,ti80,ti28,ti25,ti31,ti22,ti33,ti24,ti67,ti111,ti145,ti136,ti137,ti117,ti100, h6, h0, h4, h5, zeros_zero]
        refine awp_loop (fun z t H3 => ∃ (c : Nat) (w : Value) (lo2 hi2 : Nat), z = n - c ∧ c ≤ n ∧ t 8 = .int .i64 c ∧ t 7 = w ∧ t 6 = .int .i64 a ∧ t 0 = v ∧ t 4 = .int .i64 n ∧ t 5 = u ∧ Up H'.next H' H3 ∧ H'.next ≤ lo2 ∧ lo2 ≤ hi2 ∧ hi2 ≤ H3.next ∧ Fr 1 2 lo2 hi2 H3 w c (sqP n y a c)) n ?_ ?_
        · refine ⟨0, .slice (some ⟨H'.next, 0, some 1⟩) 0 0, H'.next, H'.next + 1, by omega, by omega, ?_⟩
          try simp (disch := first | omega | (simp only [ints_length, List.length_replicate, List.length_set, sqR_length, sqM_length, sqP_length, sqA_length]; done) | (simp only [ints_length, List.length_replicate, List.length_set, sqR_length, sqM_length, sqP_length, sqA_length]; omega)) only [Sall,evalOp,init,binE,binI,unE,convE,okNil,builtE,gv,TD.isAgg,resV,↓reduceIte,Nat.reduceEqDiff,reduceCtorEq,Nat.reduceAdd,Nat.reduceMul,Nat.reduceLeDiff,quietOp,blindOp,Int.reduceEq,Int.reduceLT,Int.reduceLE,Nat.reduceLT,ti2,ti3,ti4,ti79,ti80,ti28,ti25,ti31,ti22,ti33,ti24,ti67,ti111,ti145,ti136,ti137,ti117,ti100, Int.natCast_zero, h6, h0, h4, h5]
          refine ⟨(Up.refl _ H').push (by omega) _, ?_⟩
          (repeat refine And.intro (by omega) ?_)
          exact ⟨by simp [sqP], .inr ⟨H'.next, Nat.le_refl _, Nat.lt_succ_self _, rfl, by rw [AH.push_row, if_pos rfl]; rfl⟩⟩
        · rintro z t H3 ⟨c, w, lo2, hi2, hz, hcn, h8, h7, h6, h0, h4, h5, hup3, hlo2, hlh2, hhi2, hw⟩
          have hup31 := hup3.next
          try simp (disch := first | omega | (simp only [ints_length, List.length_replicate, List.length_set, sqR_length, sqM_length, sqP_length, sqA_length]; done) | (simp only [ints_length, List.length_replicate, List.length_set, sqR_length, sqM_length, sqP_length, sqA_length]; omega)) only [Sall,evalOp,init,binE,binI,unE,convE,okNil,builtE,gv,TD.isAgg,resV,↓reduceIte,Nat.reduceEqDiff,reduceCtorEq,Nat.reduceAdd,Nat.reduceMul,Nat.reduceLeDiff,quietOp,blindOp,Int.reduceEq,Int.reduceLT,Int.reduceLE,Nat.reduceLT,ti2,ti3,ti4,ti79,ti80,ti28,ti25,ti31,ti22,ti33,ti24,ti67,ti111,ti145,ti136,ti137,ti117,ti100, h8, h4]
          refine condC_dec (fun hh => ?_) (fun hh => ?_)
          · have hv3 : Rd 1 H3 v n y := hv.same fun i r hr => by rw [hup3.row i (by have := hs _ _ hr; omega), hup.row i (hs _ _ hr)]; exact hr
            obtain ⟨i, o, uu, cc, r, rfl, hr, hc, hg, _⟩ := hv3.get (by omega)
            have g1 := hg c (by omega)
            have hx := getD_in hin (j := c) (by omega)
            have hE : Int.tmod ((a : Int) + y.getD c 0) n = sqE n a y c := rfl
            have hEr := sqE_range (n := n) (i := a) (y := y) (j := c) (by omega) hx.1
            have hPs := sqP_succ n y a c
            revert g1 hE hPs hEr
            generalize hxx : y.getD c 0 = x at hx
            generalize sqE n a y c = e
            intro g1 hE hEr hPs
            have zz : zeros 1 [.int .i64 0] = [.int .i64 0] := rfl
            try simp (disch := first | omega | (simp only [ints_length, List.length_replicate, List.length_set, sqR_length, sqM_length, sqP_length, sqA_length]; done) | (simp only [ints_length, List.length_replicate, List.length_set, sqR_length, sqM_length, sqP_length, sqA_length]; omega)) only [Sall,evalOp,init,binE,binI,unE,convE,okNil,builtE,gv,TD.isAgg,resV,↓reduceIte,Nat.reduceEqDiff,reduceCtorEq,Nat.reduceAdd,Nat.reduceMul,Nat.reduceLeDiff,quietOp,blindOp,Int.reduceEq,Int.reduceLT,Int.reduceLE,Nat.reduceLT,ti2,ti3,ti4,ti79,ti80,ti28,ti25,ti31,ti22,ti33,ti24,ti67,ti111,ti145,ti136,ti137,ti117,ti100, h8, h7, h6, h0, h4, h5, hr, g1, zz, slCells, w64, hE]
            (repeat refine And.intro (by omega) ?_)
            obtain ⟨H4, e4⟩ : ∃ H4, H4 = H3.push ⟨2, true, [.int .i64 e]⟩ := ⟨_, rfl⟩
            have n4 : H4.next = H3.next + 1 := by rw [e4]; rfl
            have s4 : ∀ i, i < H3.next → H4.row i = H3.row i := fun i hi => by rw [e4, AH.push_row, if_neg (by omega)]
            rw [← e4]
            clear e4
            refine appE_fr (k := 1) (lo := lo2) (hi := hi2) (l := sqP n y a c) (m := [e]) (hw.same fun i _ hi => s4 i (by omega)) rfl (by omega) rfl (by omega) (by decide) (by omega) (by omega) ?_
            intro v' H5 n5 s5 f5
            try simp (disch := first | omega | (simp only [ints_length, List.length_replicate, List.length_set, sqR_length, sqM_length, sqP_length, sqA_length]; done) | (simp only [ints_length, List.length_replicate, List.length_set, sqR_length, sqM_length, sqP_length, sqA_length]; omega)) only [Sall,evalOp,init,binE,binI,unE,convE,okNil,builtE,gv,TD.isAgg,resV,↓reduceIte,Nat.reduceEqDiff,reduceCtorEq,Nat.reduceAdd,Nat.reduceMul,Nat.reduceLeDiff,quietOp,blindOp,Int.reduceEq,Int.reduceLT,Int.reduceLE,Nat.reduceLT,ti2,ti3,ti4,ti79,ti80,ti28,ti25,ti31,ti22,ti33,ti24,ti67,ti111,ti145,ti136,ti137,ti117,ti100, h8, h6, h0, h4, h5, w64]
            refine ⟨n - (c + 1), by omega, c + 1, v', H4.next, H4.next + 1, rfl, by omega, rfl, rfl, ⟨by omega, fun i hi => by rw [s5 i (by omega) (by omega), s4 i (by omega), hup3.row i hi]⟩, by omega, by omega, by omega, ?_⟩
            rw [hPs]; exact f5
          · have hc : c = n := by omega
            subst hc
            rw [sqP_all] at hw
            have zz : zeros 1 [.slice none 0 0] = [.slice none 0 0] := rfl
            have ho := hw.rd.one
            have hc1 := cells_of_one ho
            have hc2 := noTuple_of_one ho
            try simp (disch := first | omega | (simp only [ints_length, List.length_replicate, List.length_set, sqR_length, sqM_length, sqP_length, sqA_length]; done) | (simp only [ints_length, List.length_replicate, List.length_set, sqR_length, sqM_length, sqP_length, sqA_length]; omega)) only [Sall,evalOp,init,binE,binI,unE,convE,okNil,builtE,gv,TD.isAgg,resV,↓reduceIte,Nat.reduceEqDiff,reduceCtorEq,Nat.reduceAdd,Nat.reduceMul,Nat.reduceLeDiff,quietOp,blindOp,Int.reduceEq,Int.reduceLT,Int.reduceLE,Nat.reduceLT,ti2,ti3,ti4,ti79,ti80,ti28,ti25,ti31,ti22,ti33,ti24,ti67,ti111,ti145,ti136,ti137,ti117,ti100, h7, h6, h0, h4, h5, zz, slCells, ho, hc1, hc2]
            obtain ⟨H4, e4⟩ : ∃ H4, H4 = H3.push ⟨28, true, [w]⟩ := ⟨_, rfl⟩
            have n4 : H4.next = H3.next + 1 := by rw [e4]; rfl
            have s4 : ∀ i, i < H3.next → H4.row i = H3.row i := fun i hi => by rw [e4, AH.push_row, if_neg (by omega)]
            rw [← e4]
            clear e4
            refine appE_fr2 (lo := lo) (hi := hi) (hf.same fun i _ hi => by rw [s4 i (by omega), hup3.row i (by omega)]) ((hw.same fun i _ hi => s4 i (by omega)).wide (by omega) (by omega)) rfl (by decide) (by rw [sqA_length]; omega) hlh (by omega) ?_
            intro v' H5 n5 s5 f5
            try simp (disch := first | omega | (simp only [ints_length, List.length_replicate, List.length_set, sqR_length, sqM_length, sqP_length, sqA_length]; done) | (simp only [ints_length, List.length_replicate, List.length_set, sqR_length, sqM_length, sqP_length, sqA_length]; omega)) only [Sall,evalOp,init,binE,binI,unE,convE,okNil,builtE,gv,TD.isAgg,resV,↓reduceIte,Nat.reduceEqDiff,reduceCtorEq,Nat.reduceAdd,Nat.reduceMul,Nat.reduceLeDiff,quietOp,blindOp,Int.reduceEq,Int.reduceLT,Int.reduceLE,Nat.reduceLT,ti2,ti3,ti4,ti79,ti80,ti28,ti25,ti31,ti22,ti33,ti24,ti67,ti111,ti145,ti136,ti137,ti117,ti100, h6, h0, h4, w64]
            refine ⟨c - (a + 1), by omega, a + 1, v', lo, H4.next + 1, rfl, by omega, rfl, rfl, ⟨by omega, fun i hi => by rw [s5 i (by omega) (by omega), s4 i (by omega), hup3.row i (by omega), hup.row i hi]⟩, by omega, by omega, by omega, ?_⟩
            rw [sqA_succ]; exact f5
      · have ha : a = n := by omega
        subst ha
        try simp (disch := first | omega | (simp only [ints_length, List.length_replicate, List.length_set, sqR_length, sqM_length, sqP_length, sqA_length]; done) | (simp only [ints_length, List.length_replicate, List.length_set, sqR_length, sqM_length, sqP_length, sqA_length]; omega)) only [Sall,evalOp,init,binE,binI,unE,convE,okNil,builtE,gv,TD.isAgg,resV,↓reduceIte,Nat.reduceEqDiff,reduceCtorEq,Nat.reduceAdd,Nat.reduceMul,Nat.reduceLeDiff,quietOp,blindOp,Int.reduceEq,Int.reduceLT,Int.reduceLE,Nat.reduceLT,ti2,ti3,ti4,ti79,ti80,ti28,ti25,ti31,ti22,ti33,ti24,ti67,ti111,ti145,ti136,ti137,ti117,ti100, h5]
        exact ⟨u, rfl, hup, hf.wide hlo (by omega)⟩
theorem SquareOfList_c (v : Value) (n : Nat) (y : List Int) (H : AH) (hv : Rd 1 H v n y) (hy : n ≤ 4294967296) :
    ACalls Try.prog 42 [v] H (fun r H' => ∃ u, r = .tuple #[u, .int .i64 (sqC y)] ∧ Up H.next H H' ∧ Fr2 1 28 2 H.next H'.next H' u (sqL y)) := by
  have e := hv.lenK1
  subst e
  exact SquareOfList0_c v y H hv hy
theorem specSquareOfList_c (v : Value) (n : Nat) (y : List Int) (H : AH) (hv : Rd 1 H v n y) (hy : n ≤ 4294967296) :
    ACalls Try.prog 41 [v] H (fun r H' => ∃ u, r = .tuple #[u, .int .i64 (sqC y)] ∧ Up H.next H H' ∧ Fr2 1 28 2 H.next H'.next H' u (sqL y)) := by
  have e := hv.lenK1
  subst e
  exact specSquareOfList0_c v y H hv hy
end Go.Proofs.Ytbmpkihggipciaa.A
end

section
set_option linter.unusedSimpArgs false
set_option linter.unusedVariables false
namespace Go.Abs

theorem compact_len (z : List Int) (hz : z.Pairwise (fun x y => x ≤ y)) : (Go.Lib.compact z).length = z.length ↔ z.Nodup := by
  have e : (Go.Lib.compact z).length = ((List.range z.length).filter (Go.Lib.keeps z.toArray)).length := by
    unfold Go.Lib.compact Go.Lib.compactUpTo
    rw [List.length_map]
  have e2 : (Go.Lib.compact z).length = z.length ↔ ∀ j ∈ List.range z.length, Go.Lib.keeps z.toArray j = true := by
    rw [e]
    have := List.length_filter_eq_length_iff (p := Go.Lib.keeps z.toArray) (l := List.range z.length)
    rw [List.length_range] at this
    exact this
  rw [e2]
  have kp : ∀ j (h : j + 1 < z.length), Go.Lib.keeps z.toArray (j + 1) = true ↔ z[j + 1] ≠ z[j] := by
    intro j h
    unfold Go.Lib.keeps
    have h1 : z.toArray[j + 1]! = z[j + 1] := by rw [getElem!_pos _ _ (by simpa using h)]; simp
    have h2 : z.toArray[j]! = z[j] := by rw [getElem!_pos _ _ (by simp; omega)]; simp
    simp only [Nat.add_sub_cancel, h1, h2]
    simp
  constructor
  · intro h
    have hlt : z.Pairwise (fun x y => x < y) := by
      rw [List.pairwise_iff_getElem] at hz ⊢
      intro i j hi hj hij
      have h1 := (kp i (by omega)).1 (h (i + 1) (by simp; omega))
      have h2 := hz i (i + 1) hi (by omega) (by omega)
      by_cases e : i + 1 = j
      · subst e; omega
      · have h3 := hz (i + 1) j (by omega) hj (by omega)
        omega
    exact hlt.imp (by intro x y h; omega)
  · intro h j hj
    have hj' : j < z.length := by simpa using hj
    cases j with
    | zero => simp [Go.Lib.keeps]
    | succ j =>
      rw [kp j hj']
      intro e
      have := (List.getElem_inj h).1 e
      omega
theorem compact_sorted (y : List Int) : (((Go.Lib.compact (sortedL y)).length : Int) == (y.length : Int)) = decide y.Nodup := by
  rw [Bool.eq_iff_iff, beq_iff_eq, decide_eq_true_iff]
  have h := compact_len (sortedL y) (sortedL_sorted y)
  rw [sortedL_length, (sortedL_perm y).nodup_iff] at h
  rw [← h]
  omega
theorem contains_sorted (y : List Int) (x : Int) : (sortedL y).contains x = y.contains x := by
  rw [Bool.eq_iff_iff, List.contains_iff_mem, List.contains_iff_mem]
  exact (sortedL_perm y).mem_iff
/-- What IsStepSequence answers. -/
def sqnC (ok : Bool) : Int := if ok = true then 0 else 2
end Go.Abs
end

section
set_option linter.unusedSimpArgs false
set_option linter.unusedVariables false
namespace Go.Abs

/-- Pairs of numbers below m as numbers. -/
def ixN (m a b : Nat) : Int := ((a * m + b : Nat) : Int)
theorem ix_inj {m a b c d : Nat} (hb : b < m) (hd : d < m) (h : ixN m a b = ixN m c d) : a = c ∧ b = d := by
  have h0 : a * m + b = c * m + d := by unfold ixN at h; omega
  have h1 : (a * m + b) / m = (c * m + d) / m := by rw [h0]
  rw [Nat.mul_comm a, Nat.mul_comm c, Nat.mul_add_div (by omega), Nat.mul_add_div (by omega), Nat.div_eq_of_lt hb, Nat.div_eq_of_lt hd] at h1
  have e : a = c := by omega
  subst e
  exact ⟨rfl, by omega⟩
theorem ix_lt {m a b : Nat} (ha : a < m) (hb : b < m) : 0 ≤ ixN m a b ∧ ixN m a b < ((m * m : Nat) : Int) := by
  have h : a * m + b < m * m := by
    have h1 : (a + 1) * m ≤ m * m := Nat.mul_le_mul_right m ha
    rw [Nat.succ_mul] at h1
    omega
  unfold ixN
  omega
/-- How often pairs are among others. -/
def cntMx (m : Nat) (I : List Int) : List (List Int) := (List.range m).map fun a => (List.range m).map fun b => ((I.count (ixN m a b) : Nat) : Int)
theorem cntMx_sq (m : Nat) (I : List Int) : SqM m (cntMx m I) := by
  refine ⟨by simp [cntMx], fun j hj => ?_⟩
  unfold cntMx
  rw [List.getD_eq_getElem?_getD, List.getElem?_map, List.getElem?_range hj]
  simp
theorem cntMx_nil (m : Nat) : cntMx m [] = zeroM m := by
  unfold cntMx zeroM
  refine List.eq_replicate_iff.2 ⟨by simp, fun r hr => ?_⟩
  obtain ⟨a, _, rfl⟩ := List.mem_map.1 hr
  exact List.eq_replicate_iff.2 ⟨by simp, by intro b hb; obtain ⟨c, _, rfl⟩ := List.mem_map.1 hb; rfl⟩
theorem cntMx_row (m : Nat) (I : List Int) (a : Nat) (ha : a < m) : (cntMx m I).getD a [] = (List.range m).map fun b => ((I.count (ixN m a b) : Nat) : Int) := by
  unfold cntMx
  rw [List.getD_eq_getElem?_getD, List.getElem?_map, List.getElem?_range ha]
  rfl
theorem cntMx_at (m : Nat) (I : List Int) (a b : Nat) (ha : a < m) (hb : b < m) : ((cntMx m I).getD a []).getD b 0 = ((I.count (ixN m a b) : Nat) : Int) := by
  rw [cntMx_row m I a ha, List.getD_eq_getElem?_getD, List.getElem?_map, List.getElem?_range hb]
  rfl
theorem cntMx_inc (m : Nat) (I : List Int) (x y : Nat) (hx : x < m) (hy : y < m) (hI : I.length ≤ 1000000) : incM (cntMx m I) x y = cntMx m (I ++ [ixN m x y]) := by
  have hsq := cntMx_sq m I
  unfold incM
  rw [Int.toNat_natCast]
  apply List.ext_getElem?
  intro a
  rw [List.getElem?_set, hsq.1]
  by_cases ha : a < m
  · have e1 : (cntMx m (I ++ [ixN m x y]))[a]? = some ((List.range m).map fun b => (((I ++ [ixN m x y]).count (ixN m a b) : Nat) : Int)) := by
      unfold cntMx; rw [List.getElem?_map, List.getElem?_range ha]; rfl
    have e2 : (cntMx m I)[a]? = some ((List.range m).map fun b => ((I.count (ixN m a b) : Nat) : Int)) := by
      unfold cntMx; rw [List.getElem?_map, List.getElem?_range ha]; rfl
    rw [e1]
    by_cases e : x = a
    · subst e
      rw [if_pos rfl, if_pos hx, cntMx_row m I x hx]
      congr 1
      unfold incR
      rw [Int.toNat_natCast]
      apply List.ext_getElem?
      intro b
      rw [List.getElem?_set, List.length_map, List.length_range, List.getElem?_map, List.getElem?_map]
      by_cases hb : b < m
      · rw [List.getElem?_range hb]
        simp only [Option.map_some]
        rw [List.count_append, List.count_singleton]
        by_cases e3 : y = b
        · subst e3
          rw [if_pos rfl, if_pos hy, List.getD_eq_getElem?_getD, List.getElem?_map, List.getElem?_range hy]
          simp only [Option.map_some, Option.getD_some, beq_self_eq_true, if_true]
          have hc := List.count_le_length (a := ixN m x y) (l := I)
          have w : IntKind.i64.wrap (((I.count (ixN m x y) : Nat) : Int) + 1) = ((I.count (ixN m x y) : Nat) : Int) + 1 := w64 (by omega)
          rw [w]; congr 1
        · rw [if_neg e3]
          have : (ixN m x y == ixN m x b) = false := by
            rw [beq_eq_false_iff_ne]; intro h; exact e3 (ix_inj hy hb h).2
          rw [this]; simp
      · rw [if_neg (by omega), List.getElem?_eq_none (by simpa using hb)]; rfl
    · rw [if_neg e, e2]
      congr 1
      apply List.map_congr_left
      intro b hb
      have hb' : b < m := by simpa using hb
      rw [List.count_append, List.count_singleton]
      have : (ixN m x y == ixN m a b) = false := by
        rw [beq_eq_false_iff_ne]; intro h; exact e (ix_inj hy hb' h).1
      rw [this]; simp
  · rw [if_neg (by omega), List.getElem?_eq_none (by rw [hsq.1]; omega), List.getElem?_eq_none (by rw [(cntMx_sq m _).1]; omega)]

/-- All pairs of different numbers. -/
def offD (m : Nat) : List Int := (List.range m).flatMap fun a => ((List.range m).filter fun b => decide (b ≠ a)).map fun b => ixN m a b
theorem offD_length : ∀ m, m < 15 → (offD m).length = m * (m - 1) := by decide +kernel
theorem offD_mem {m a b : Nat} (ha : a < m) (hb : b < m) (h : a ≠ b) : ixN m a b ∈ offD m := by
  unfold offD
  rw [List.mem_flatMap]
  exact ⟨a, by simpa using ha, List.mem_map.2 ⟨b, List.mem_filter.2 ⟨by simpa using hb, by simpa using fun e => h e.symm⟩, rfl⟩⟩
theorem bal_nodup {m : Nat} (hm : m < 15) {I : List Int} (hl : I.length = m * (m - 1)) (hI : ∀ x ∈ I, ∃ a b, a < m ∧ b < m ∧ a ≠ b ∧ x = ixN m a b) : balB (cntMx m I) = decide I.Nodup := by
  have hsq := cntMx_sq m I
  by_cases h : I.Nodup
  · rw [decide_eq_true h]
    have hp : I.Perm (offD m) := perm_of_nodup I (offD m) h (fun x hx => by obtain ⟨a, b, h1, h2, h3, rfl⟩ := hI x hx; exact offD_mem h1 h2 h3) (by rw [offD_length m hm, hl]; exact Nat.le_refl _)
    refine balB_good fun i hi j hj => ?_
    rw [hsq.1] at hi
    rw [hsq.2 i hi] at hj
    unfold balAt
    by_cases e : i = j
    · rw [decide_eq_true e]; rfl
    · rw [decide_eq_false e, Bool.false_or, cntMx_at m I i j hi hj, h.count, if_pos (hp.symm.subset (offD_mem hi hj e))]
      rfl
  · rw [decide_eq_false h, Bool.eq_false_iff]
    intro hb
    refine h (List.nodup_iff_count.2 fun x => ?_)
    by_cases hx : x ∈ I
    · obtain ⟨a, b, h1, h2, h3, rfl⟩ := hI x hx
      have hb2 : balAt (cntMx m I) a b = true := by
        by_cases e : balAt (cntMx m I) a b = true
        · exact e
        · rw [balB_bad (by rw [hsq.1]; exact h1) (by rw [hsq.2 a h1]; exact h2) (by simpa using e)] at hb
          cases hb
      unfold balAt at hb2
      rw [decide_eq_false h3, Bool.false_or, cntMx_at m I a b h1 h2, beq_iff_eq] at hb2
      omega
    · rw [List.count_eq_zero_of_not_mem hx]; omega

/-! ### Neighbours -/
def nbE (m : Nat) (r : List Int) (k : Nat) : Int := ixN m (r.getD k 0).toNat (r.getD (k + 1) 0).toNat
def nbR (m : Nat) (r : List Int) (c : Nat) : List Int := (List.range c).map (nbE m r)
/-- The neighbours of the first i rows, and the first c of the next one. -/
def nbP (m : Nat) (ll : List (List Int)) (i c : Nat) : List Int := ((List.range i).flatMap fun i => nbR m (ll.getD i []) (m - 1)) ++ nbR m (ll.getD i []) c
theorem nbP_succ (m : Nat) (ll : List (List Int)) (i c : Nat) : nbP m ll i (c + 1) = nbP m ll i c ++ [nbE m (ll.getD i []) c] := by
  unfold nbP nbR
  rw [List.range_succ, List.map_append, List.append_assoc]; rfl
theorem nbP_next (m : Nat) (ll : List (List Int)) (i : Nat) : nbP m ll i (m - 1) = nbP m ll (i + 1) 0 := by
  unfold nbP
  rw [List.range_succ, List.flatMap_append]
  simp [nbR]
theorem nbP_zero (m : Nat) (ll : List (List Int)) : nbP m ll 0 0 = [] := rfl
theorem nbP_length (m : Nat) (ll : List (List Int)) (i c : Nat) : (nbP m ll i c).length = i * (m - 1) + c := by
  unfold nbP
  rw [List.length_append]
  have h1 : ∀ r c, (nbR m r c).length = c := fun r c => by simp [nbR]
  rw [h1]
  congr 1
  induction i with
  | zero => simp
  | succ i ih => rw [List.range_succ, List.flatMap_append, List.length_append, ih, Nat.succ_mul]; simp [h1]
theorem getD_nodup {r : List Int} (h : r.Nodup) {i j : Nat} (hi : i < r.length) (hj : j < r.length) (e : r.getD i 0 = r.getD j 0) : i = j := by
  rw [List.getD_eq_getElem?_getD, List.getD_eq_getElem?_getD, List.getElem?_eq_getElem hi, List.getElem?_eq_getElem hj] at e
  simp only [Option.getD_some] at e
  exact (List.getElem_inj h).1 e
def nbA (m : Nat) (ll : List (List Int)) : List Int := nbP m ll m 0
theorem nbA_mem {m : Nat} {ll : List (List Int)} (hin : ∀ i, i < m → (ll.getD i []).length = m ∧ ∀ j, j < m → 0 ≤ (ll.getD i []).getD j 0 ∧ (ll.getD i []).getD j 0 < m) (hlat : latB m ll = true) {x : Int} (hx : x ∈ nbA m ll) : ∃ a b, a < m ∧ b < m ∧ a ≠ b ∧ x = ixN m a b := by
  unfold nbA nbP at hx
  have e0 : nbR m (ll.getD m []) 0 = [] := rfl
  rw [e0, List.append_nil, List.mem_flatMap] at hx
  obtain ⟨i, hi, hx⟩ := hx
  have hi' : i < m := by simpa using hi
  unfold nbR at hx
  obtain ⟨k, hk, rfl⟩ := List.mem_map.1 hx
  have hk' : k < m - 1 := by simpa using hk
  obtain ⟨hl, hr⟩ := hin i hi'
  have h1 := hr k (by omega)
  have h2 := hr (k + 1) (by omega)
  refine ⟨_, _, ?_, ?_, ?_, rfl⟩
  · omega
  · omega
  · intro e
    have ho : ordB m (ll.getD i []) = true := by
      unfold latB at hlat
      have := List.all_eq_true.1 hlat i hi
      unfold latAt at this
      exact (Bool.and_eq_true_iff.1 this).1
    have hnd := ((ordB_iff m _).1 ho).2.2
    have e2 : (ll.getD i []).getD k 0 = (ll.getD i []).getD (k + 1) 0 := by omega
    have := getD_nodup hnd (show k < _ by omega) (show k + 1 < _ by omega) e2
    omega
theorem nbA_length (m : Nat) (ll : List (List Int)) : (nbA m ll).length = m * (m - 1) := by
  unfold nbA; rw [nbP_length, Nat.add_zero]
/-- What IsRowComplete answers. -/
def ircC (n : Int) (ll : List (List Int)) : Int := if haveB n ll = true then (if latB n.toNat ll = true then 0 else 4) else 2
def ircB (n : Int) (ll : List (List Int)) : Bool := haveB n ll && latB n.toNat ll && decide (nbA n.toNat ll).Nodup
theorem nbP_pre (m : Nat) (ll : List (List Int)) (i c : Nat) (hi : i < m) (hc : c < m - 1) : ∃ L, nbA m ll = nbP m ll i (c + 1) ++ L := by
  have h1 : ∀ d, ∃ L, nbP m ll i (c + 1 + d) = nbP m ll i (c + 1) ++ L := by
    intro d
    induction d with
    | zero => exact ⟨[], by simp⟩
    | succ d ih =>
      obtain ⟨L, hL⟩ := ih
      exact ⟨L ++ [nbE m (ll.getD i []) (c + 1 + d)], by rw [← Nat.add_assoc, nbP_succ, hL, List.append_assoc]⟩
  have h2 : ∀ d, ∃ L, nbP m ll (i + 1 + d) 0 = nbP m ll (i + 1) 0 ++ L := by
    intro d
    induction d with
    | zero => exact ⟨[], by simp⟩
    | succ d ih =>
      obtain ⟨L, hL⟩ := ih
      refine ⟨L ++ nbR m (ll.getD (i + 1 + d) []) (m - 1), ?_⟩
      rw [← Nat.add_assoc, ← nbP_next]
      have : nbP m ll (i + 1 + d) (m - 1) = nbP m ll (i + 1 + d) 0 ++ nbR m (ll.getD (i + 1 + d) []) (m - 1) := by
        unfold nbP; simp [nbR]
      rw [this, hL, List.append_assoc]
  obtain ⟨L1, hL1⟩ := h1 (m - 1 - (c + 1))
  obtain ⟨L2, hL2⟩ := h2 (m - (i + 1))
  rw [show c + 1 + (m - 1 - (c + 1)) = m - 1 by omega, nbP_next] at hL1
  rw [show i + 1 + (m - (i + 1)) = m by omega] at hL2
  exact ⟨L1 ++ L2, by unfold nbA; rw [hL2, hL1, List.append_assoc]⟩
theorem nb_bad {m : Nat} {ll : List (List Int)} {i c : Nat} (hi : i < m) (hc : c < m - 1) (h : (nbP m ll i c).contains (nbE m (ll.getD i []) c) = true) : decide (nbA m ll).Nodup = false := by
  obtain ⟨L, hL⟩ := nbP_pre m ll i c hi hc
  rw [decide_eq_false_iff_not, hL, nbP_succ]
  intro hn
  have h1 := (List.nodup_append.1 hn).1
  exact (nodup_snoc.1 h1).2 (List.contains_iff_mem.1 h)
end Go.Abs
end

section
set_option linter.unusedSimpArgs false
set_option linter.unusedVariables false
namespace Go.Abs

def eachAt (p : Int → Bool) (M : List (List Int)) (i j : Nat) : Bool := decide (i = j) || p ((M.getD i []).getD j 0)
def eachB (p : Int → Bool) (M : List (List Int)) : Bool := (List.range M.length).all fun i => (List.range (M.getD i []).length).all fun j => eachAt p M i j
theorem eachB_bad {p : Int → Bool} {M : List (List Int)} {i j : Nat} (hi : i < M.length) (hj : j < (M.getD i []).length) (h : eachAt p M i j = false) : eachB p M = false := by
  unfold eachB
  exact all_false_of hi (all_false_of hj h)
theorem eachB_good {p : Int → Bool} {M : List (List Int)} (h : ∀ i, i < M.length → ∀ j, j < (M.getD i []).length → eachAt p M i j = true) : eachB p M = true := by
  unfold eachB
  exact all_true_of fun i hi => all_true_of fun j hj => h i hi j hj
theorem eachB_at {p : Int → Bool} {M : List (List Int)} (h : eachB p M = true) {i j : Nat} (hi : i < M.length) (hj : j < (M.getD i []).length) : eachAt p M i j = true := by
  unfold eachB at h
  rw [List.all_eq_true] at h
  have h2 := h i (by simpa using hi)
  rw [List.all_eq_true] at h2
  exact h2 j (by simpa using hj)
theorem eachB_imp {p q : Int → Bool} (h : ∀ x, p x = true → q x = true) {M : List (List Int)} (hM : eachB p M = true) : eachB q M = true :=
  eachB_good fun i hi j hj => by
    have h1 := eachB_at hM hi hj
    unfold eachAt at h1 ⊢
    rw [Bool.or_eq_true] at h1 ⊢
    exact h1.imp id (h _)

theorem getD_mem2 {α : Type} (y : List (α × α)) (i : Nat) (hi : i < y.length) {d : α × α} : y.getD i d ∈ y := by
  rw [List.getD_eq_getElem?_getD, List.getElem?_eq_getElem hi]; exact List.getElem_mem _
/-! ### Tables -/
def qd (l : List Int) (t j : Nat) : Nat := (l.getD (4 * t + j) 0).toNat
def evW (n : Nat) (q : Nat → Nat) (ws : List (Nat × Nat)) : List Int := ws.flatMap fun w => [ixN n (q w.1) (q w.2), ixN n (q w.2) (q w.1)]
def evR (n : Nat) (ws : List (Nat × Nat)) (l : List Int) (c : Nat) : List Int := (List.range c).flatMap fun t => evW n (qd l t) ws
def evA (n : Nat) (ws : List (Nat × Nat)) (R : List (List Int)) (k : Nat) : List Int := (List.range k).flatMap fun i => evR n ws (R.getD i []) ((R.getD i []).length / 4)
def tabM (n : Nat) (ws : List (Nat × Nat)) (R : List (List Int)) : List (List Int) := cntMx n (evA n ws R R.length)
theorem evW_snoc (n : Nat) (q : Nat → Nat) (ws : List (Nat × Nat)) (w : Nat × Nat) : evW n q (ws ++ [w]) = evW n q ws ++ [ixN n (q w.1) (q w.2)] ++ [ixN n (q w.2) (q w.1)] := by simp [evW]
theorem evR_succ (n : Nat) (ws : List (Nat × Nat)) (l : List Int) (c : Nat) : evR n ws l (c + 1) = evR n ws l c ++ evW n (qd l c) ws := by simp [evR, List.range_succ]
theorem evA_succ (n : Nat) (ws : List (Nat × Nat)) (R : List (List Int)) (k : Nat) : evA n ws R (k + 1) = evA n ws R k ++ evR n ws (R.getD k []) ((R.getD k []).length / 4) := by simp [evA, List.range_succ]
theorem evW_length (n : Nat) (q : Nat → Nat) : ∀ (ws : List (Nat × Nat)), (evW n q ws).length = 2 * ws.length
  | [] => rfl
  | w :: ws => by
    have e : evW n q (w :: ws) = [ixN n (q w.1) (q w.2), ixN n (q w.2) (q w.1)] ++ evW n q ws := by simp [evW]
    rw [e, List.length_append, evW_length n q ws, List.length_cons, List.length_cons]
    simp
    omega
theorem evR_length (n : Nat) (ws : List (Nat × Nat)) (l : List Int) : ∀ c, (evR n ws l c).length = c * (2 * ws.length)
  | 0 => by simp [evR]
  | c + 1 => by rw [evR_succ, List.length_append, evR_length n ws l c, evW_length, Nat.add_mul c 1, Nat.one_mul]
theorem evA_length {n : Nat} {ws : List (Nat × Nat)} {R : List (List Int)} (hR : ∀ i, i < R.length → (R.getD i []).length ≤ 16) : ∀ k, k ≤ R.length → (evA n ws R k).length ≤ k * (4 * (2 * ws.length))
  | 0, _ => by simp [evA]
  | k + 1, h => by
    rw [evA_succ, List.length_append, evR_length]
    have h1 := evA_length (n := n) (ws := ws) hR k (by omega)
    have h2 := hR k (by omega)
    have h3 : (R.getD k []).length / 4 * (2 * ws.length) ≤ 4 * (2 * ws.length) := Nat.mul_le_mul_right _ (by omega)
    rw [Nat.add_mul k 1, Nat.one_mul]
    omega
/-- The other side's order. -/
def svW (n : Nat) (l : List Int) (k : Nat) (ws : List Nat) : List Int := ws.map fun w => ixN n (l.getD k 0).toNat (l.getD (k / 4 * 4 + (k % 4 ^^^ w)) 0).toNat
def svR (n : Nat) (ws : List Nat) (l : List Int) (c : Nat) : List Int := (List.range c).flatMap fun k => svW n l k ws
def svA (n : Nat) (ws : List Nat) (R : List (List Int)) (k : Nat) : List Int := (List.range k).flatMap fun i => svR n ws (R.getD i []) (R.getD i []).length
theorem svW_snoc (n : Nat) (l : List Int) (k : Nat) (ws : List Nat) (w : Nat) : svW n l k (ws ++ [w]) = svW n l k ws ++ [ixN n (l.getD k 0).toNat (l.getD (k / 4 * 4 + (k % 4 ^^^ w)) 0).toNat] := by simp [svW]
theorem svR_succ (n : Nat) (ws : List Nat) (l : List Int) (c : Nat) : svR n ws l (c + 1) = svR n ws l c ++ svW n l c ws := by simp [svR, List.range_succ]
theorem svA_succ (n : Nat) (ws : List Nat) (R : List (List Int)) (k : Nat) : svA n ws R (k + 1) = svA n ws R k ++ svR n ws (R.getD k []) (R.getD k []).length := by simp [svA, List.range_succ]
theorem svW_length (n : Nat) (l : List Int) (k : Nat) (ws : List Nat) : (svW n l k ws).length = ws.length := by simp [svW]
theorem svR_length (n : Nat) (ws : List Nat) (l : List Int) : ∀ c, (svR n ws l c).length = c * ws.length
  | 0 => by simp [svR]
  | c + 1 => by rw [svR_succ, List.length_append, svR_length n ws l c, svW_length, Nat.add_mul c 1, Nat.one_mul]
theorem svA_length {n : Nat} {ws : List Nat} {R : List (List Int)} (hR : ∀ i, i < R.length → (R.getD i []).length ≤ 16) : ∀ k, k ≤ R.length → (svA n ws R k).length ≤ k * (16 * ws.length)
  | 0, _ => by simp [svA]
  | k + 1, h => by
    rw [svA_succ, List.length_append, svR_length]
    have h1 := svA_length (n := n) (ws := ws) hR k (by omega)
    have h2 := hR k (by omega)
    have h3 : (R.getD k []).length * ws.length ≤ 16 * ws.length := Nat.mul_le_mul_right _ (by omega)
    rw [Nat.add_mul k 1, Nat.one_mul]
    omega
def wayOk (us : List Nat) (ws : List (Nat × Nat)) : Prop := ([0, 1, 2, 3].flatMap fun j => us.map fun w => (j, j ^^^ w)).Perm (ws.flatMap fun w => [(w.1, w.2), (w.2, w.1)])
theorem way1 : wayOk [1] [(0, 1), (2, 3)] := by unfold wayOk; decide
theorem way23 : wayOk [2, 3] [(0, 2), (1, 3), (0, 3), (1, 2)] := by unfold wayOk; decide
theorem way2 : wayOk [2] [(0, 2), (1, 3)] := by unfold wayOk; decide
theorem way3 : wayOk [3] [(0, 3), (1, 2)] := by unfold wayOk; decide
theorem evW_pairs (n : Nat) (q : Nat → Nat) (ws : List (Nat × Nat)) : evW n q ws = (ws.flatMap fun w => [(w.1, w.2), (w.2, w.1)]).map fun p => ixN n (q p.1) (q p.2) := by
  unfold evW
  rw [List.map_flatMap]
  rfl
theorem svW_block (n : Nat) (l : List Int) (t : Nat) (us : List Nat) : svW n l (4 * t) us ++ svW n l (4 * t + 1) us ++ svW n l (4 * t + 2) us ++ svW n l (4 * t + 3) us = ([0, 1, 2, 3].flatMap fun j => us.map fun w => (j, j ^^^ w)).map fun p => ixN n (qd l t p.1) (qd l t p.2) := by
  have h : ∀ j, j < 4 → svW n l (4 * t + j) us = (us.map fun w => (j, j ^^^ w)).map fun p => ixN n (qd l t p.1) (qd l t p.2) := by
    intro j hj
    unfold svW
    rw [List.map_map]
    apply List.map_congr_left
    intro w _
    show ixN n (l.getD (4 * t + j) 0).toNat (l.getD ((4 * t + j) / 4 * 4 + ((4 * t + j) % 4 ^^^ w)) 0).toNat = ixN n (l.getD (4 * t + j) 0).toNat (l.getD (4 * t + (j ^^^ w)) 0).toNat
    rw [show (4 * t + j) / 4 * 4 = 4 * t by omega, show (4 * t + j) % 4 = j by omega]
  have h0 := h 0 (by omega)
  rw [Nat.add_zero] at h0
  rw [h0, h 1 (by omega), h 2 (by omega), h 3 (by omega)]
  simp
theorem svR_perm {n : Nat} {us : List Nat} {ws : List (Nat × Nat)} (hw : wayOk us ws) (l : List Int) : ∀ c, (svR n us l (4 * c)).Perm (evR n ws l c)
  | 0 => by simp [svR, evR]
  | c + 1 => by
    rw [show 4 * (c + 1) = 4 * c + 1 + 1 + 1 + 1 by omega, svR_succ, svR_succ, svR_succ, svR_succ, evR_succ, evW_pairs]
    have e := svW_block n l c us
    rw [show svR n us l (4 * c) ++ svW n l (4 * c) us ++ svW n l (4 * c + 1) us ++ svW n l (4 * c + 1 + 1) us ++ svW n l (4 * c + 1 + 1 + 1) us = svR n us l (4 * c) ++ (svW n l (4 * c) us ++ svW n l (4 * c + 1) us ++ svW n l (4 * c + 2) us ++ svW n l (4 * c + 3) us) by simp, e]
    exact (svR_perm hw l c).append (hw.map _)
theorem svA_perm {n : Nat} {us : List Nat} {ws : List (Nat × Nat)} (hw : wayOk us ws) {R : List (List Int)} (hR : ∀ i, i < R.length → (R.getD i []).length % 4 = 0) : ∀ k, k ≤ R.length → (svA n us R k).Perm (evA n ws R k)
  | 0, _ => by simp [svA, evA]
  | k + 1, h => by
    rw [svA_succ, evA_succ]
    have h1 := hR k (by omega)
    have h2 := svR_perm (n := n) hw (R.getD k []) ((R.getD k []).length / 4)
    rw [show 4 * ((R.getD k []).length / 4) = (R.getD k []).length by omega] at h2
    exact (svA_perm hw hR k (by omega)).append h2
theorem cntMx_perm {m : Nat} {I J : List Int} (h : I.Perm J) : cntMx m I = cntMx m J := by
  unfold cntMx
  congr 1; funext a; congr 1; funext b
  rw [h.count_eq]
theorem svA_tab {n : Nat} {us : List Nat} {ws : List (Nat × Nat)} (hw : wayOk us ws) {R : List (List Int)} (hR : ∀ i, i < R.length → (R.getD i []).length % 4 = 0) : cntMx n (svA n us R R.length) = tabM n ws R :=
  cntMx_perm (svA_perm hw hR _ (Nat.le_refl _))
theorem tabM_sq (n : Nat) (ws : List (Nat × Nat)) (R : List (List Int)) : SqM n (tabM n ws R) := cntMx_sq _ _

/-! ### Evenings made from a base round -/
def mdX (m i : Nat) (x : Int) : Int := if x < m then (x + i) % m else x
def mdL (m i : Nat) (y : List Int) : List Int := y.map (mdX m i)
def madeL (m : Nat) (y : List Int) (k : Nat) : List (List Int) := (List.range k).map fun i => mdL m i y
theorem mdL_length (m i : Nat) (y : List Int) : (mdL m i y).length = y.length := by simp [mdL]
theorem mdL_snoc (m i : Nat) (y : List Int) (k : Nat) (hk : k < y.length) : mdL m i (y.take (k + 1)) = mdL m i (y.take k) ++ [mdX m i (y.getD k 0)] := by
  rw [take_snoc y 0 k hk]; simp [mdL]
theorem madeL_length (m : Nat) (y : List Int) (k : Nat) : (madeL m y k).length = k := by simp [madeL]
theorem madeL_getD (m : Nat) (y : List Int) (k i : Nat) (h : i < k) : (madeL m y k).getD i [] = mdL m i y := by
  unfold madeL
  rw [List.getD_eq_getElem?_getD, List.getElem?_map, List.getElem?_range h]; rfl
theorem madeL_succ (m : Nat) (y : List Int) (k : Nat) : madeL m y (k + 1) = madeL m y k ++ [mdL m k y] := by simp [madeL, List.range_succ]
theorem mdX_range {n m i : Nat} (hm : 1 ≤ m ∧ m ≤ n) {x : Int} (hx : 0 ≤ x ∧ x < n) : 0 ≤ mdX m i x ∧ mdX m i x < n := by
  unfold mdX
  split
  · have h1 := Int.emod_nonneg (x + i) (show (m : Int) ≠ 0 by omega)
    have h2 := Int.emod_lt_of_pos (x + i) (show (0 : Int) < m by omega)
    omega
  · omega
theorem mdX_inj {m i : Nat} (hm : 1 ≤ m) {x z : Int} (hx : 0 ≤ x) (hz : 0 ≤ z) (h : mdX m i x = mdX m i z) : x = z := by
  have r : ∀ w : Int, 0 ≤ (w + i) % (m : Int) ∧ (w + i) % (m : Int) < m := fun w => ⟨Int.emod_nonneg _ (by omega), Int.emod_lt_of_pos _ (by omega)⟩
  unfold mdX at h
  by_cases hxm : x < m
  · by_cases hzm : z < m
    · rw [if_pos hxm, if_pos hzm] at h
      have d : ((m : Int)) ∣ (x + i) - (z + i) := Int.dvd_of_emod_eq_zero (by rw [Int.sub_emod, h, Int.sub_self]; simp)
      obtain ⟨c, hc⟩ := d
      have h1 : x - z = m * c := by omega
      have hc1 : c < 1 := by
        by_cases hh : 1 ≤ c
        · have := Int.mul_le_mul_of_nonneg_left hh (show (0 : Int) ≤ m by omega); omega
        · omega
      have hc2 : -1 < c := by
        by_cases hh : c ≤ -1
        · have := Int.mul_le_mul_of_nonneg_left hh (show (0 : Int) ≤ m by omega); omega
        · omega
      have hc0 : c = 0 := by omega
      rw [hc0] at h1
      omega
    · rw [if_pos hxm, if_neg hzm] at h
      have := r x; omega
  · by_cases hzm : z < m
    · rw [if_neg hxm, if_pos hzm] at h
      have := r z; omega
    · rw [if_neg hxm, if_neg hzm] at h; exact h
theorem mdL_mem {n m i : Nat} (hm : 1 ≤ m ∧ m ≤ n) {y : List Int} (hy : ∀ x ∈ y, 0 ≤ x ∧ x < (n : Int)) : ∀ x ∈ mdL m i y, 0 ≤ x ∧ x < (n : Int) := by
  intro x hx
  obtain ⟨z, hz, rfl⟩ := List.mem_map.1 hx
  exact mdX_range hm (hy z hz)
theorem getD_ne {l : List Int} (h : l.Nodup) {i j : Nat} (hi : i < l.length) (hj : j < l.length) (hij : i ≠ j) : l.getD i 0 ≠ l.getD j 0 := by
  rw [List.getD_eq_getElem?_getD, List.getD_eq_getElem?_getD, List.getElem?_eq_getElem hi, List.getElem?_eq_getElem hj]
  intro e
  exact hij ((List.getElem_inj h).1 e)
theorem mdL_nodup {n m i : Nat} (hm : 1 ≤ m) {y : List Int} (hy : ∀ x ∈ y, 0 ≤ x ∧ x < (n : Int)) (hn : y.Nodup) : (mdL m i y).Nodup := by
  unfold mdL
  unfold List.Nodup
  rw [List.pairwise_map]
  refine List.Pairwise.imp_of_mem ?_ hn
  intro a b ha hb hab e
  exact hab (mdX_inj hm (hy a ha).1 (hy b hb).1 e)
/-- Nobody meets himself. -/
theorem tabM_diag {n m : Nat} {ws : List (Nat × Nat)} (hws : ∀ w ∈ ws, w.1 < 4 ∧ w.2 < 4 ∧ w.1 ≠ w.2) (hm : 1 ≤ m ∧ m ≤ n) {y : List Int} (hy : ∀ x ∈ y, 0 ≤ x ∧ x < (n : Int)) (hnd : y.Nodup) {k x : Nat} (hx : x < n) :
    ((tabM n ws (madeL m y k)).getD x []).getD x 0 = 0 := by
  unfold tabM
  rw [cntMx_at _ _ _ _ hx hx]
  have h0 : ixN n x x ∉ evA n ws (madeL m y k) (madeL m y k).length := by
    intro h
    unfold evA at h
    obtain ⟨i, hi, h⟩ := List.mem_flatMap.1 h
    have hik : i < k := by have := List.mem_range.1 hi; rw [madeL_length] at this; exact this
    rw [madeL_getD m y k i hik, mdL_length] at h
    unfold evR at h
    obtain ⟨t, ht, h⟩ := List.mem_flatMap.1 h
    have ht2 := List.mem_range.1 ht
    unfold evW at h
    obtain ⟨w, hw, h⟩ := List.mem_flatMap.1 h
    obtain ⟨w1, w2, w3⟩ := hws w hw
    have hl := mdL_length m i y
    have hmem : ∀ j, j < 4 → 0 ≤ (mdL m i y).getD (4 * t + j) 0 ∧ (mdL m i y).getD (4 * t + j) 0 < (n : Int) := fun j hj => by
      refine mdL_mem (i := i) hm hy _ ?_
      rw [List.getD_eq_getElem?_getD, List.getElem?_eq_getElem (by omega)]; exact List.getElem_mem _
    have hlt : ∀ j, j < 4 → qd (mdL m i y) t j < n := fun j hj => by have := hmem j hj; unfold qd; omega
    have hne : qd (mdL m i y) t w.1 ≠ qd (mdL m i y) t w.2 := by
      intro e
      have h1 := getD_ne (mdL_nodup (i := i) hm.1 hy hnd) (i := 4 * t + w.1) (j := 4 * t + w.2) (by omega) (by omega) (by omega)
      have h2 := hmem w.1 w1
      have h3 := hmem w.2 w2
      unfold qd at e
      omega
    simp only [List.mem_cons, List.not_mem_nil, or_false] at h
    rcases h with h | h
    · obtain ⟨e1, e2⟩ := ix_inj hx (hlt _ w2) h
      exact hne (by omega)
    · obtain ⟨e1, e2⟩ := ix_inj hx (hlt _ w1) h
      exact hne (by omega)
  rw [List.count_eq_zero.2 h0]
  rfl
def wP : List (Nat × Nat) := [(0, 1), (2, 3)]
def wO : List (Nat × Nat) := [(0, 2), (1, 3), (0, 3), (1, 2)]
def w1L : List (Nat × Nat) := [(0, 2), (1, 3)]
def w2L : List (Nat × Nat) := [(0, 3), (1, 2)]
/-- Is it whist? -/
def formB (n : Nat) (R : List (List Int)) : Bool := decide (n % 4 ≤ 1) && decide (R.length = n - 1 + n % 4) && (List.range R.length).all fun i => decide ((R.getD i []).length = n - n % 4)
def whistB (n : Nat) (R : List (List Int)) : Bool := formB n R && (eachB (fun x => x == 1) (tabM n wP R) && eachB (fun x => x == 2) (tabM n wO R))
def mOf (n : Nat) : Nat := n - 1 + n % 4
def fitsB (n : Nat) (y : List Int) : Bool := eachB (fun x => decide (x ≤ 1)) (tabM n wP (madeL (mOf n) y (mOf n))) && eachB (fun x => decide (x ≤ 2)) (tabM n wO (madeL (mOf n) y (mOf n)))
theorem whist_fits {n : Nat} {y : List Int} (h : whistB n (madeL (mOf n) y (mOf n)) = true) : fitsB n y = true := by
  unfold whistB at h
  rw [Bool.and_eq_true, Bool.and_eq_true] at h
  unfold fitsB
  rw [eachB_imp (fun x hx => by have : x = 1 := by simpa using hx
                                simp [this]) h.2.1, eachB_imp (fun x hx => by have : x = 2 := by simpa using hx
                                                                              simp [this]) h.2.2]
  rfl
theorem fits_nil (n : Nat) : fitsB n [] = true := by
  have h : ∀ ws, tabM n ws (madeL (mOf n) [] (mOf n)) = zeroM n := by
    intro ws
    unfold tabM
    have e : evA n ws (madeL (mOf n) [] (mOf n)) (madeL (mOf n) [] (mOf n)).length = [] := by
      unfold evA
      rw [List.flatMap_eq_nil_iff]
      intro i hi
      have hik : i < mOf n := by have := List.mem_range.1 hi; rw [madeL_length] at this; exact this
      rw [madeL_getD _ _ _ i hik]
      simp [mdL, evR]
    rw [e, cntMx_nil]
  have z : ∀ p : Int → Bool, p 0 = true → eachB p (zeroM n) = true := fun p hp => eachB_good fun i hi j hj => by
    have hs := zeroM_sq n
    have hi2 : i < n := by rw [hs.1] at hi; exact hi
    have hj2 : j < n := by rw [hs.2 i hi2] at hj; exact hj
    unfold eachAt
    have e : ((zeroM n).getD i []).getD j 0 = 0 := by simp [zeroM, List.getD_eq_getElem?_getD, List.getElem?_replicate, hi2, hj2]
    rw [e, hp, Bool.or_true]
  unfold fitsB
  rw [h, h, z _ (by decide), z _ (by decide)]
  rfl
/-- The first base round. -/
def fbN (n : Nat) : Nat → List Int → Option (List Int)
  | 0, y => if whistB n (madeL (mOf n) y (mOf n)) = true then some y else none
  | f + 1, y => if y.length % 4 = 0 ∧ 0 < y.length ∧ fitsB n y = false then none else (seqL 0 n).findSome? fun x => if y.contains x = true then none else fbN n f (y ++ [x])
theorem fbN_mem {n : Nat} : ∀ (f : Nat) (y z : List Int), fbN n f y = some z → z.length = y.length + f
  | 0, y, z, h => by
    unfold fbN at h
    split at h
    · injection h with h; subst h; rfl
    · cases h
  | f + 1, y, z, h => by
    unfold fbN at h
    split at h
    · cases h
    · obtain ⟨x, _, hx⟩ := List.exists_of_findSome?_eq_some h
      split at hx
      · cases hx
      · have := fbN_mem f _ _ hx
        rw [List.length_append, List.length_singleton] at this
        omega
theorem findSome_take {α : Type} (g : Int → Option α) (n a : Nat) (ha : a < n) (hp : ∀ j, j < a → g (j : Int) = none) {z : α} (hz : g (a : Int) = some z) : (seqL 0 n).findSome? g = some z := by
  have e : seqL 0 n = seqL 0 a ++ seqL a (n - a) := by
    unfold seqL
    rw [show n = a + (n - a) by omega, List.range_add, List.map_append, List.map_map, show a + (n - a) - a = n - a by omega]
    congr 1
    apply List.map_congr_left
    intro i _
    show (0 : Int) + ((a + i : Nat) : Int) = (a : Int) + i
    omega
  rw [e, List.findSome?_append]
  have h1 : (seqL 0 a).findSome? g = none := by
    rw [List.findSome?_eq_none_iff]
    intro x hx
    obtain ⟨j, hj, rfl⟩ := List.mem_map.1 hx
    have := hp j (List.mem_range.1 hj)
    show g (0 + (j : Int)) = none
    rw [show (0 : Int) + j = j by omega]
    exact this
  rw [h1]
  obtain ⟨c, hc⟩ : ∃ c, n - a = c + 1 := ⟨n - a - 1, by omega⟩
  rw [hc]
  have e2 : seqL (a : Int) (c + 1) = (a : Int) :: seqL ((a : Int) + 1) c := by
    unfold seqL
    rw [List.range_succ_eq_map, List.map_cons, List.map_map]
    congr 1
    apply List.map_congr_left
    intro i _
    show (a : Int) + ((i + 1 : Nat) : Int) = a + 1 + (i : Int)
    omega
  rw [e2, List.findSome?_cons, hz]
  rfl
theorem findSome_none {α : Type} (g : Int → Option α) (n : Nat) (hp : ∀ j, j < n → g (j : Int) = none) : (seqL 0 n).findSome? g = none := by
  rw [List.findSome?_eq_none_iff]
  intro x hx
  obtain ⟨j, hj, rfl⟩ := List.mem_map.1 hx
  show g (0 + (j : Int)) = none
  rw [show (0 : Int) + j = j by omega]
  exact hp j (List.mem_range.1 hj)
def fbOk (n : Int) : Bool := decide (n = 4 ∨ n = 5 ∨ n = 8 ∨ n = 9)
def fbO (n : Int) : Option (List Int) := if fbOk n = true then fbN n.toNat (n.toNat - n.toNat % 4) [] else none
def fbR (n : Int) : List Int := (fbO n).getD []
def fbC (n : Int) : Int := if fbOk n = true then (if (fbO n).isSome = true then 0 else 4) else 2
theorem fbR_length (n : Int) : (fbR n).length ≤ 16 := by
  unfold fbR fbO
  split
  · rename_i h
    cases e : fbN n.toNat (n.toNat - n.toNat % 4) [] with
    | none => simp
    | some z =>
      have h1 := fbN_mem _ _ _ e
      have h2 : n = 4 ∨ n = 5 ∨ n = 8 ∨ n = 9 := of_decide_eq_true h
      simp at h1 ⊢
      omega
  · simp
end Go.Abs
end

section
set_option linter.unusedSimpArgs false
set_option linter.unusedVariables false
namespace Go.Abs
open Go Go.RowKit

theorem Fr2.sameR {k ty ty' lo hi : Nat} {H H' : AH} {v : Value} {ll : List (List Int)} (h : Fr2 k ty ty' lo hi H v ll) (hs : ∀ i r, lo ≤ i → i < hi → H.row i = some r → r.ty = ty ∨ r.ty = ty' → H'.row i = some r) : Fr2 k ty ty' lo hi H' v ll := by
  rcases h with h | ⟨i, vs, b, h1, h2, hv, hr, hl, g0, gn, gi, gm, hh⟩
  · exact .inl h
  · have mono : ∀ j, b 0 ≤ b j := fun j => by
      induction j with
      | zero => exact Nat.le_refl _
      | succ j ih => exact Nat.le_trans ih (gm j)
    have mono2 : ∀ d j, b j ≤ b (j + d) := fun d => by
      induction d with
      | zero => intro j; exact Nat.le_refl _
      | succ d ih => intro j; exact Nat.le_trans (ih j) (gm (j + d))
    refine .inr ⟨i, vs, b, h1, h2, hv, hs i _ h1 h2 hr (.inl rfl), hl, g0, gn, gi, gm, fun j hj => ?_⟩
    obtain ⟨x, m, hx, hf⟩ := hh j hj
    refine ⟨x, m, hx, hf.1, ?_⟩
    rcases hf.2 with h3 | ⟨q, q1, q2, q3, q4⟩
    · exact .inl h3
    · have a1 := mono j
      have a2 := mono2 (ll.length - (j + 1)) (j + 1)
      rw [show j + 1 + (ll.length - (j + 1)) = ll.length by omega] at a2
      exact .inr ⟨q, q1, q2, q3, hs q _ (by omega) (by omega) q4 (.inr rfl)⟩
theorem appE_fr2K {P : Program} {E : TI} {k ty ty' lo hi m : Nat} {H : AH} {v x : Value} {ll : List (List Int)} {l : List Int} {K : Value → AH → Prop} (h : Fr2 k ty ty' lo hi H v ll) (hx : Fr k ty' hi H.next H x m l) (hE : E.size = 1) (hb : E.bytes ≤ 32768) (hn : ll.length + 1 ≤ 4294967296) (hlo : lo ≤ hi) (hhi : hi ≤ H.next)
    (hK : ∀ v' H', H'.next = H.next + 1 → (∀ i, ¬(lo ≤ i ∧ i < hi) → i < H.next → H'.row i = H.row i) → (∀ j r, j < H.next → H.row j = some r → r.ty ≠ ty → H'.row j = some r) → Fr2 k ty ty' lo (H.next + 1) H' v' (ll ++ [l]) → K v' H') :
    runOut P H (appE E ty v [x] 1 H) K := by
  unfold appE
  rw [if_neg (by omega)]
  refine Holds.mp ?_
  rcases h with ⟨rfl, rfl⟩ | ⟨i, vs, b, h1, h2, rfl, hr, hvl, g0, gn, gi, gm, hj⟩ <;> rw [holds_def]
  · simp only [asSl_nil, runOut_need, runOut_val, hE]
    refine ⟨⟨by omega, hb⟩, hK _ _ rfl (fun i _ hi => by rw [AH.push_row, if_neg (by omega)]) (fun j r hj hr _ => by rw [AH.push_row, if_neg (by omega)]; exact hr) (.inr ⟨H.next, [x], fun j => if j = 0 then hi else H.next, by omega, by omega, rfl, by rw [AH.push_row, if_pos rfl], rfl, ?_, ?_, .inr ?_, fun j => ?_, fun j hj => ?_⟩)⟩
    · dsimp only; rw [if_pos rfl]; exact hlo
    · dsimp only [List.nil_append, List.length_singleton]; rw [if_neg (by omega)]; omega
    · dsimp only [List.nil_append, List.length_singleton]; rw [if_neg (by omega)]; omega
    · dsimp only; split
      · rw [if_neg (by omega)]; exact hhi
      · rw [if_neg (by omega)]; omega
    · simp only [List.nil_append, List.length_singleton] at hj
      have : j = 0 := by omega
      subst this
      refine ⟨x, m, rfl, ?_⟩
      dsimp only
      rw [if_pos rfl, if_neg (by omega)]
      exact hx.same fun z _ hz => by rw [AH.push_row, if_neg (by omega)]
  · simp only [asSl_some, hr, bindO_some, runOut_need, Nat.zero_add, hE, Nat.mul_one]
    refine ⟨⟨hn, hb, by omega, .inl rfl⟩, ?_⟩
    rw [if_neg (by omega)]
    simp only [runOut_need, runOut_val]
    refine ⟨by simp, hK _ _ rfl (fun j hj hj2 => ?_) (fun j r hj hr' hne => by rw [AH.push_row, if_neg (by rw [AH.drop_next]; omega), AH.drop_row, if_neg (by rintro rfl; rw [hr] at hr'; injection hr' with e; exact hne (by rw [← e]))]; exact hr') (.inr ⟨H.next, vs ++ [x], fun j => if j < ll.length then b j else if j = ll.length then hi else H.next, by omega, by omega, ?_, ?_, ?_, ?_, ?_, .inr ?_, fun j => ?_, fun j hjl => ?_⟩)⟩
    · rw [AH.push_row, if_neg (by rw [AH.drop_next]; omega), AH.drop_row, if_neg (by omega)]
    · rw [List.length_append]; rfl
    · rw [AH.push_row, AH.drop_next, if_pos rfl, seg_all _ _ hvl.symm]
    · rw [List.length_append, List.length_append, hvl]; rfl
    · dsimp only
      split
      · exact g0
      · split
        · exact hlo
        · omega
    · rw [List.length_append, List.length_singleton]
      dsimp only
      rw [if_neg (by omega), if_neg (by omega)]; omega
    · rw [List.length_append, List.length_singleton]
      dsimp only
      rw [if_neg (by omega), if_neg (by omega)]; omega
    · dsimp only
      by_cases c1 : j + 1 < ll.length
      · rw [if_pos (by omega), if_pos c1]; exact gm j
      · by_cases c2 : j + 1 = ll.length
        · rw [if_pos (by omega), if_neg c1, if_pos c2]
          have := mono_of_step gm (show j ≤ ll.length by omega); omega
        · by_cases c3 : j = ll.length
          · rw [if_neg (by omega), if_pos c3, if_neg c1, if_neg c2]; exact hhi
          · rw [if_neg (by omega), if_neg c3, if_neg c1, if_neg c2]; omega
    · rw [List.length_append, List.length_singleton] at hjl
      have old : ∀ z, lo ≤ z → z < H.next → ¬ z = i → ((H.drop i).push ⟨ty, true, seg vs 0 ll.length ++ [x]⟩).row z = H.row z := fun z _ z2 z3 => by
        rw [AH.push_row, if_neg (by rw [AH.drop_next]; omega), AH.drop_row, if_neg z3]
      by_cases c : j < ll.length
      · obtain ⟨y, q, hy, hf⟩ := hj j c
        refine ⟨y, q, by rw [List.getElem?_append_left (by omega), hy], ?_⟩
        have e1 : (ll ++ [l]).getD j [] = ll.getD j [] := by simp [List.getD_eq_getElem?_getD, List.getElem?_append_left c]
        rw [e1]
        have c1 := mono_of_step gm (Nat.zero_le j)
        have c2 := mono_of_step gm (show j + 1 ≤ ll.length by omega)
        have f1 : Fr k ty' (b j) (b (j + 1)) ((H.drop i).push ⟨ty, true, seg vs 0 ll.length ++ [x]⟩) y q (ll.getD j []) := hf.same fun z z1 z2 => old z (by omega) (by omega) (by omega)
        dsimp only
        rw [if_pos c]
        by_cases c3 : j + 1 < ll.length
        · rw [if_pos c3]; exact f1
        · rw [if_neg c3, if_pos (by omega)]; exact f1.wide (Nat.le_refl _) (by omega)
      · have c4 : j = ll.length := by omega
        subst c4
        refine ⟨x, m, by rw [← hvl, List.getElem?_append_right (Nat.le_refl _)]; simp, ?_⟩
        have e1 : (ll ++ [l]).getD ll.length [] = l := by simp [List.getD_eq_getElem?_getD]
        rw [e1]
        dsimp only
        rw [if_neg (by omega), if_pos rfl, if_neg (by omega), if_neg (by omega)]
        exact hx.same fun z z1 z2 => old z (by omega) z2 (by omega)

end Go.Abs
end

section
set_option linter.unusedSimpArgs false
set_option linter.unusedVariables false
set_option maxRecDepth 100000
set_option maxHeartbeats 2000000
namespace Go.Proofs.Ytbmpkihggipciaa.A
open Go Go.Abs Go.RowKit

theorem areAll_c (g : FuncId) (p : Int → Bool) (hp : ∀ (x : Int) (H : AH), ACalls Try.prog g [.int .i64 x] H (is (.bool (p x)) H)) (v : Value) (n : Nat) (M : List (List Int)) (H : AH) (hv : Rd2 1 H v M) (hM : SqM n M) (hn : n ≤ 1024) : ACalls Try.prog 107 [v, .func (.func g) #[] #[]] H (is (.bool (eachB p M)) H) := by
  refine acalls_up rfl (acalls_of_awp [.tmp 4] Try.func107 (by kernel_rfl) rfl rfl (Nat.le_of_ble_eq_true rfl) (by kernel_rfl) ?_)
  have hlen := hv.len
  rw [hM.1] at hlen
  try simp (disch := first | omega | (simp only [ints_length, List.length_replicate, List.length_set]; done) | (simp only [ints_length, List.length_replicate, List.length_set]; omega)) only [Sall,evalOp,init,binE,binI,unE,convE,okNil,builtE,gv,TD.isAgg,resV,↓reduceIte,Nat.reduceEqDiff,reduceCtorEq,Nat.reduceAdd,Nat.reduceMul,Nat.reduceLeDiff,quietOp,blindOp,Int.reduceEq,Int.reduceLT,Int.reduceLE,Nat.reduceLT,ti2,ti3,ti4,ti79,ti80,ti28,ti25,ti31,ti22,ti33,ti24,ti67,ti111,ti145,ti136,ti137,ti117,ti100, builtE, hlen]
  refine awp_loop (fun m t H' => ∃ a : Nat, m = n - a ∧ a ≤ n ∧ t 11 = .int .i64 a ∧ t 10 = .int .i64 n ∧ t 9 = v ∧ t 1 = .func (.func g) #[] #[] ∧ H' = H ∧ (∀ i, i < a → ∀ j, j < n → eachAt p M i j = true)) n ?_ ?_
  · refine ⟨0, by omega, by omega, ?_⟩
    try simp (disch := first | omega | (simp only [ints_length, List.length_replicate, List.length_set]; done) | (simp only [ints_length, List.length_replicate, List.length_set]; omega)) only [Sall,evalOp,init,binE,binI,unE,convE,okNil,builtE,gv,TD.isAgg,resV,↓reduceIte,Nat.reduceEqDiff,reduceCtorEq,Nat.reduceAdd,Nat.reduceMul,Nat.reduceLeDiff,quietOp,blindOp,Int.reduceEq,Int.reduceLT,Int.reduceLE,Nat.reduceLT,ti2,ti3,ti4,ti79,ti80,ti28,ti25,ti31,ti22,ti33,ti24,ti67,ti111,ti145,ti136,ti137,ti117,ti100, Int.natCast_zero, Nat.not_lt_zero, false_implies]
  · rintro m t H' ⟨a, hm, han, h11, h10, h9, h1, rfl, hall⟩
    try simp (disch := first | omega | (simp only [ints_length, List.length_replicate, List.length_set]; done) | (simp only [ints_length, List.length_replicate, List.length_set]; omega)) only [Sall,evalOp,init,binE,binI,unE,convE,okNil,builtE,gv,TD.isAgg,resV,↓reduceIte,Nat.reduceEqDiff,reduceCtorEq,Nat.reduceAdd,Nat.reduceMul,Nat.reduceLeDiff,quietOp,blindOp,Int.reduceEq,Int.reduceLT,Int.reduceLE,Nat.reduceLT,ti2,ti3,ti4,ti79,ti80,ti28,ti25,ti31,ti22,ti33,ti24,ti67,ti111,ti145,ti136,ti137,ti117,ti100, h11, h10]
    refine condC_dec (fun h => ?_) (fun h => ?_)
    · obtain ⟨i, o, u, c, r, y, my, rfl, hr, hy, hsx, hok⟩ := hv.get (j := a) (by rw [hM.1]; omega)
      have hmy := hsx.lenK1
      have hrow := hM.2 a (by omega)
      have hMl := hM.1
      rw [hrow] at hmy
      subst hmy
      try simp (disch := first | omega | (simp only [ints_length, List.length_replicate, List.length_set]; done) | (simp only [ints_length, List.length_replicate, List.length_set]; omega)) only [Sall,evalOp,init,binE,binI,unE,convE,okNil,builtE,gv,TD.isAgg,resV,↓reduceIte,Nat.reduceEqDiff,reduceCtorEq,Nat.reduceAdd,Nat.reduceMul,Nat.reduceLeDiff,quietOp,blindOp,Int.reduceEq,Int.reduceLT,Int.reduceLE,Nat.reduceLT,ti2,ti3,ti4,ti79,ti80,ti28,ti25,ti31,ti22,ti33,ti24,ti67,ti111,ti145,ti136,ti137,ti117,ti100, h11, h10, h9, h1, hr, hy, hok, builtE, hsx.len]
      rw [hMl]
      (repeat refine And.intro (by omega) ?_)
      refine awp_loop (fun z t H7 => ∃ b : Nat, z = my - b ∧ b ≤ my ∧ t 18 = .int .i64 b ∧ t 17 = .int .i64 my ∧ t 16 = y ∧ t 5 = .int .i64 a ∧ t 11 = .int .i64 a ∧ t 10 = .int .i64 my ∧ t 9 = .slice (some ⟨i, o, u⟩) M.length c ∧ t 1 = .func (.func g) #[] #[] ∧ H7 = H' ∧ (∀ j, j < b → eachAt p M a j = true)) my ?_ ?_
      · refine ⟨0, by omega, by omega, ?_⟩
        try simp (disch := first | omega | (simp only [ints_length, List.length_replicate, List.length_set]; done) | (simp only [ints_length, List.length_replicate, List.length_set]; omega)) only [Sall,evalOp,init,binE,binI,unE,convE,okNil,builtE,gv,TD.isAgg,resV,↓reduceIte,Nat.reduceEqDiff,reduceCtorEq,Nat.reduceAdd,Nat.reduceMul,Nat.reduceLeDiff,quietOp,blindOp,Int.reduceEq,Int.reduceLT,Int.reduceLE,Nat.reduceLT,ti2,ti3,ti4,ti79,ti80,ti28,ti25,ti31,ti22,ti33,ti24,ti67,ti111,ti145,ti136,ti137,ti117,ti100, Int.natCast_zero, Nat.not_lt_zero, false_implies, h11, h10, h9, h1]
        try rw [hMl]
      · rintro z t H7 ⟨b, hz, hbn, h18, h17, h16, h5, h11, h10, h9, h1, rfl, hin⟩
        try simp (disch := first | omega | (simp only [ints_length, List.length_replicate, List.length_set]; done) | (simp only [ints_length, List.length_replicate, List.length_set]; omega)) only [Sall,evalOp,init,binE,binI,unE,convE,okNil,builtE,gv,TD.isAgg,resV,↓reduceIte,Nat.reduceEqDiff,reduceCtorEq,Nat.reduceAdd,Nat.reduceMul,Nat.reduceLeDiff,quietOp,blindOp,Int.reduceEq,Int.reduceLT,Int.reduceLE,Nat.reduceLT,ti2,ti3,ti4,ti79,ti80,ti28,ti25,ti31,ti22,ti33,ti24,ti67,ti111,ti145,ti136,ti137,ti117,ti100, h18, h17]
        refine condC_dec (fun hh => ?_) (fun hh => ?_)
        · obtain ⟨i7, o7, u7, c7, r7, rfl, hr7, hc7, hs7, hg7⟩ := hsx.get (by omega)
          have g1 := hs7 b (by omega)
          by_cases hab : a = b
          · have e2 : ((a : Int) != (b : Int)) = false := by rw [hab]; exact bne_self_eq_false _
            have hbal : eachAt p M a b = true := by unfold eachAt; rw [decide_eq_true hab]; rfl
            try simp (disch := first | omega | (simp only [ints_length, List.length_replicate, List.length_set]; done) | (simp only [ints_length, List.length_replicate, List.length_set]; omega)) only [Sall,evalOp,init,binE,binI,unE,convE,okNil,builtE,gv,TD.isAgg,resV,↓reduceIte,Nat.reduceEqDiff,reduceCtorEq,Nat.reduceAdd,Nat.reduceMul,Nat.reduceLeDiff,quietOp,blindOp,Int.reduceEq,Int.reduceLT,Int.reduceLE,Nat.reduceLT,ti2,ti3,ti4,ti79,ti80,ti28,ti25,ti31,ti22,ti33,ti24,ti67,ti111,ti145,ti136,ti137,ti117,ti100, h18, h17, h16, h5, h11, h10, h9, h1, hr7, g1, e2, w64]
            (repeat refine And.intro (by omega) ?_)
            refine ⟨my - (b + 1), by omega, b + 1, rfl, by omega, rfl, fun j hj => ?_⟩
            by_cases e : j = b
            · rw [e]; exact hbal
            · exact hin j (by omega)
          · have e2 : ((a : Int) != (b : Int)) = true := by rw [bne_iff_ne]; omega
            try simp (disch := first | omega | (simp only [ints_length, List.length_replicate, List.length_set]; done) | (simp only [ints_length, List.length_replicate, List.length_set]; omega)) only [Sall,evalOp,init,binE,binI,unE,convE,okNil,builtE,gv,TD.isAgg,resV,↓reduceIte,Nat.reduceEqDiff,reduceCtorEq,Nat.reduceAdd,Nat.reduceMul,Nat.reduceLeDiff,quietOp,blindOp,Int.reduceEq,Int.reduceLT,Int.reduceLE,Nat.reduceLT,ti2,ti3,ti4,ti79,ti80,ti28,ti25,ti31,ti22,ti33,ti24,ti67,ti111,ti145,ti136,ti137,ti117,ti100, h18, h17, h16, h5, h11, h10, h9, h1, hr7, g1, e2]
            (repeat refine And.intro (by omega) ?_)
            refine (hp _ _).to ?_
            cases hx1 : p ((M.getD a []).getD b 0) with
            | true =>
              have hbal : eachAt p M a b = true := by unfold eachAt; rw [hx1]; simp
              try simp (disch := first | omega | (simp only [ints_length, List.length_replicate, List.length_set]; done) | (simp only [ints_length, List.length_replicate, List.length_set]; omega)) only [Sall,evalOp,init,binE,binI,unE,convE,okNil,builtE,gv,TD.isAgg,resV,↓reduceIte,Nat.reduceEqDiff,reduceCtorEq,Nat.reduceAdd,Nat.reduceMul,Nat.reduceLeDiff,quietOp,blindOp,Int.reduceEq,Int.reduceLT,Int.reduceLE,Nat.reduceLT,ti2,ti3,ti4,ti79,ti80,ti28,ti25,ti31,ti22,ti33,ti24,ti67,ti111,ti145,ti136,ti137,ti117,ti100, Bool.not_true, h18, h17, h16, h5, h11, h10, h9, h1, w64]
              refine ⟨my - (b + 1), by omega, b + 1, rfl, by omega, rfl, fun j hj => ?_⟩
              by_cases e : j = b
              · rw [e]; exact hbal
              · exact hin j (by omega)
            | false =>
              have hbal : eachAt p M a b = false := by
                unfold eachAt
                rw [decide_eq_false hab, hx1]; rfl
              try simp (disch := first | omega | (simp only [ints_length, List.length_replicate, List.length_set]; done) | (simp only [ints_length, List.length_replicate, List.length_set]; omega)) only [Sall,evalOp,init,binE,binI,unE,convE,okNil,builtE,gv,TD.isAgg,resV,↓reduceIte,Nat.reduceEqDiff,reduceCtorEq,Nat.reduceAdd,Nat.reduceMul,Nat.reduceLeDiff,quietOp,blindOp,Int.reduceEq,Int.reduceLT,Int.reduceLE,Nat.reduceLT,ti2,ti3,ti4,ti79,ti80,ti28,ti25,ti31,ti22,ti33,ti24,ti67,ti111,ti145,ti136,ti137,ti117,ti100, Bool.not_false]
              rw [eachB_bad (i := a) (j := b) (by rw [hMl]; omega) (by omega) hbal]
              exact ⟨rfl, Up.refl _ _⟩
        · try simp (disch := first | omega | (simp only [ints_length, List.length_replicate, List.length_set]; done) | (simp only [ints_length, List.length_replicate, List.length_set]; omega)) only [Sall,evalOp,init,binE,binI,unE,convE,okNil,builtE,gv,TD.isAgg,resV,↓reduceIte,Nat.reduceEqDiff,reduceCtorEq,Nat.reduceAdd,Nat.reduceMul,Nat.reduceLeDiff,quietOp,blindOp,Int.reduceEq,Int.reduceLT,Int.reduceLE,Nat.reduceLT,ti2,ti3,ti4,ti79,ti80,ti28,ti25,ti31,ti22,ti33,ti24,ti67,ti111,ti145,ti136,ti137,ti117,ti100, h11, h10, h9, h1, w64]
          refine ⟨my - (a + 1), by omega, a + 1, rfl, by omega, rfl, by first | rfl | rw [hMl], fun i hi j hj => ?_⟩
          by_cases e : i = a
          · rw [e]; exact hin j (by omega)
          · exact hall i (by omega) j hj
    · try simp (disch := first | omega | (simp only [ints_length, List.length_replicate, List.length_set]; done) | (simp only [ints_length, List.length_replicate, List.length_set]; omega)) only [Sall,evalOp,init,binE,binI,unE,convE,okNil,builtE,gv,TD.isAgg,resV,↓reduceIte,Nat.reduceEqDiff,reduceCtorEq,Nat.reduceAdd,Nat.reduceMul,Nat.reduceLeDiff,quietOp,blindOp,Int.reduceEq,Int.reduceLT,Int.reduceLE,Nat.reduceLT,ti2,ti3,ti4,ti79,ti80,ti28,ti25,ti31,ti22,ti33,ti24,ti67,ti111,ti145,ti136,ti137,ti117,ti100, true_and]
      rw [eachB_good (fun i hi j hj => hall i (by rw [hM.1] at hi; omega) j (by rw [hM.1] at hi; rw [hM.2 i hi] at hj; exact hj))]
      exact ⟨rfl, Up.refl _ _⟩


/-- An evening whose rounds are fresh. -/
def FrE (q : Int) (R : List (List Int)) (H : AH) (v : Value) (H' : AH) : Prop := ∃ u, v = .agg #[.int .i64 q, u] ∧ Up H.next H H' ∧ Fr2 1 28 2 H.next H'.next H' u R

theorem mdX_tmod {m i : Nat} {x : Int} (hx : 0 ≤ x) (h : x < m) : Int.tmod (x + i) m = mdX m i x := by
  unfold mdX
  rw [if_pos h, Int.tmod_eq_emod_of_nonneg (by omega)]
theorem mdX_out {m i : Nat} {x : Int} (h : ¬ x < m) : mdX m i x = x := by unfold mdX; rw [if_neg h]

theorem madeFrom_c (n : Nat) (hn : 1 ≤ n ∧ n ≤ 16) (v : Value) (y : List Int) (H : AH) (hv : Rd 1 H v y.length y) (hy : y.length ≤ 64) (hin : ∀ x ∈ y, 0 ≤ x ∧ x < (n : Int)) :
    ACalls Try.prog 133 [.int .i64 n, v] H (FrE n (madeL (mOf n) y (mOf n)) H) := by
  refine ACalls.wf (by kernel_rfl) fun hs => acalls_of_awp [.cell 4 117] Try.func133 (by kernel_rfl) rfl rfl (Nat.le_of_ble_eq_true rfl) (by kernel_rfl) ?_
  have em : Int.tmod (n : Int) 4 = ((n % 4 : Nat) : Int) := rfl
  obtain ⟨m, hm⟩ : ∃ m, m = mOf n := ⟨_, rfl⟩
  have em2 : (n : Int) - 1 + ((n % 4 : Nat) : Int) = (m : Int) := by rw [hm]; unfold mOf; omega
  have hm1 : 1 ≤ m ∨ m = 0 := by omega
  have hm2 : m ≤ 19 := by rw [hm]; unfold mOf; omega
  rw [← hm]
  try simp (disch := first | omega | (simp only [ints_length, List.length_replicate, List.length_set]; done) | (simp only [ints_length, List.length_replicate, List.length_set]; omega)) only [Sall,evalOp,init,binE,binI,unE,convE,okNil,builtE,gv,TD.isAgg,resV,↓reduceIte,Nat.reduceEqDiff,reduceCtorEq,Nat.reduceAdd,Nat.reduceMul,Nat.reduceLeDiff,quietOp,blindOp,Int.reduceEq,Int.reduceLT,Int.reduceLE,Nat.reduceLT,ti2,ti3,ti4,ti79,ti80,ti28,ti25,ti31,ti22,ti33,ti24,ti67,ti111,ti145,ti136,ti137,ti117,ti100, w64, em, em2]
  refine awp_loop (fun z t H' => ∃ (a : Nat) (u : Value) (lo hi : Nat), z = m - a ∧ a ≤ m ∧ t 19 = .int .i64 a ∧ t 18 = .int .i64 m ∧ t 5 = .int .i64 m ∧ t 1 = v ∧ t 4 = .pointer (some ⟨H.next, 0, none⟩) ∧ t 6 = .pointer (some ⟨H.next + 1, 0, none⟩) ∧ Up H.next H H' ∧ H.next + 2 ≤ H'.next ∧
    H'.row H.next = some ⟨117, true, [.int .i64 0, .slice none 0 0]⟩ ∧ H'.row (H.next + 1) = some ⟨117, true, [.int .i64 n, u]⟩ ∧ H.next + 2 ≤ lo ∧ lo ≤ hi ∧ hi ≤ H'.next ∧ Fr2 1 28 2 lo hi H' u (madeL m y a)) m ?_ ?_
  · refine ⟨0, .slice none 0 0, H.next + 2, H.next + 2, by omega, by omega, ?_⟩
    try simp (disch := first | omega | (simp only [ints_length, List.length_replicate, List.length_set]; done) | (simp only [ints_length, List.length_replicate, List.length_set]; omega)) only [Sall,evalOp,init,binE,binI,unE,convE,okNil,builtE,gv,TD.isAgg,resV,↓reduceIte,Nat.reduceEqDiff,reduceCtorEq,Nat.reduceAdd,Nat.reduceMul,Nat.reduceLeDiff,quietOp,blindOp,Int.reduceEq,Int.reduceLT,Int.reduceLE,Nat.reduceLT,ti2,ti3,ti4,ti79,ti80,ti28,ti25,ti31,ti22,ti33,ti24,ti67,ti111,ti145,ti136,ti137,ti117,ti100, Int.natCast_zero]
    exact ⟨((((Up.refl _ H).push (by omega) _).push (by simp only [AH.push_next]; omega) _).set (by omega) _), .inl ⟨by simp [madeL], rfl⟩⟩
  · rintro z t H' ⟨a, u, lo, hi, hz, ham, h19, h18, h5, h1, h4, h6, hup, hnx, r0, r1, hlo, hlh, hhi, hf⟩
    have hup1 := hup.next
    try simp (disch := first | omega | (simp only [ints_length, List.length_replicate, List.length_set]; done) | (simp only [ints_length, List.length_replicate, List.length_set]; omega)) only [Sall,evalOp,init,binE,binI,unE,convE,okNil,builtE,gv,TD.isAgg,resV,↓reduceIte,Nat.reduceEqDiff,reduceCtorEq,Nat.reduceAdd,Nat.reduceMul,Nat.reduceLeDiff,quietOp,blindOp,Int.reduceEq,Int.reduceLT,Int.reduceLE,Nat.reduceLT,ti2,ti3,ti4,ti79,ti80,ti28,ti25,ti31,ti22,ti33,ti24,ti67,ti111,ti145,ti136,ti137,ti117,ti100, h19, h18]
    refine condC_dec (fun h => ?_) (fun h => ?_)
    · have hv1 : Rd 1 H' v y.length y := hv.same (hup.le hs).row
      have hln := hv1.len
      have hln2 : ∀ H2 : AH, (asSl v (Out.val (Value.int IntKind.i64 0) H2) fun _ _ _ n _ => Out.val (Value.int IntKind.i64 (n : Int)) H2) = Out.val (Value.int IntKind.i64 y.length) H2 := fun H2 => hln H2
      try simp (disch := first | omega | (simp only [ints_length, List.length_replicate, List.length_set]; done) | (simp only [ints_length, List.length_replicate, List.length_set]; omega)) only [Sall,evalOp,init,binE,binI,unE,convE,okNil,builtE,gv,TD.isAgg,resV,↓reduceIte,Nat.reduceEqDiff,reduceCtorEq,Nat.reduceAdd,Nat.reduceMul,Nat.reduceLeDiff,quietOp,blindOp,Int.reduceEq,Int.reduceLT,Int.reduceLE,Nat.reduceLT,ti2,ti3,ti4,ti79,ti80,ti28,ti25,ti31,ti22,ti33,ti24,ti67,ti111,ti145,ti136,ti137,ti117,ti100, h19, h18, h5, h1, h4, h6, builtE, hln2, zeros_zero]
      refine awp_loop (fun z t H3 => ∃ (c : Nat) (w : Value) (lo2 hi2 : Nat), z = y.length - c ∧ c ≤ y.length ∧ t 25 = .int .i64 c ∧ t 24 = .int .i64 y.length ∧ t 23 = v ∧ t 8 = w ∧ t 7 = .int .i64 a ∧ t 19 = .int .i64 a ∧ t 18 = .int .i64 m ∧ t 5 = .int .i64 m ∧ t 1 = v ∧ t 4 = .pointer (some ⟨H.next, 0, none⟩) ∧ t 6 = .pointer (some ⟨H.next + 1, 0, none⟩) ∧ Up H'.next H' H3 ∧ H'.next ≤ lo2 ∧ lo2 ≤ hi2 ∧ hi2 ≤ H3.next ∧ Fr 1 2 lo2 hi2 H3 w c (mdL m a (y.take c))) y.length ?_ ?_
      · refine ⟨0, .slice (some ⟨H'.next, 0, some 1⟩) 0 0, H'.next, H'.next + 1, by omega, by omega, ?_⟩
        try simp (disch := first | omega | (simp only [ints_length, List.length_replicate, List.length_set]; done) | (simp only [ints_length, List.length_replicate, List.length_set]; omega)) only [Sall,evalOp,init,binE,binI,unE,convE,okNil,builtE,gv,TD.isAgg,resV,↓reduceIte,Nat.reduceEqDiff,reduceCtorEq,Nat.reduceAdd,Nat.reduceMul,Nat.reduceLeDiff,quietOp,blindOp,Int.reduceEq,Int.reduceLT,Int.reduceLE,Nat.reduceLT,ti2,ti3,ti4,ti79,ti80,ti28,ti25,ti31,ti22,ti33,ti24,ti67,ti111,ti145,ti136,ti137,ti117,ti100, Int.natCast_zero, h19, h18, h5, h1, h4, h6]
        refine ⟨(Up.refl _ H').push (by omega) _, ?_⟩
        (repeat refine And.intro (by omega) ?_)
        exact ⟨by simp [mdL], .inr ⟨H'.next, Nat.le_refl _, Nat.lt_succ_self _, rfl, by rw [AH.push_row, if_pos rfl]; rfl⟩⟩
      · rintro z t H3 ⟨c, w, lo2, hi2, hz, hcn, h25, h24, h23, h8, h7, h19, h18, h5, h1, h4, h6, hup3, hlo2, hlh2, hhi2, hw⟩
        have hup31 := hup3.next
        try simp (disch := first | omega | (simp only [ints_length, List.length_replicate, List.length_set]; done) | (simp only [ints_length, List.length_replicate, List.length_set]; omega)) only [Sall,evalOp,init,binE,binI,unE,convE,okNil,builtE,gv,TD.isAgg,resV,↓reduceIte,Nat.reduceEqDiff,reduceCtorEq,Nat.reduceAdd,Nat.reduceMul,Nat.reduceLeDiff,quietOp,blindOp,Int.reduceEq,Int.reduceLT,Int.reduceLE,Nat.reduceLT,ti2,ti3,ti4,ti79,ti80,ti28,ti25,ti31,ti22,ti33,ti24,ti67,ti111,ti145,ti136,ti137,ti117,ti100, h25, h24]
        refine condC_dec (fun hh => ?_) (fun hh => ?_)
        · have hv3 : Rd 1 H3 v y.length y := hv.same fun i r hr => by rw [hup3.row i (by have := hs _ _ hr; omega), hup.row i (hs _ _ hr)]; exact hr
          obtain ⟨i, o, uu, cc, r, rfl, hr, hc, hg, _⟩ := hv3.get (by omega)
          have g1 := hg c (by omega)
          have hx := hin (y.getD c 0) (by rw [List.getD_eq_getElem?_getD, List.getElem?_eq_getElem (by omega)]; exact List.getElem_mem _)
          have hsn := mdL_snoc m a y c (by omega)
          revert g1 hx hsn
          generalize y.getD c 0 = x
          intro g1 hx hsn
          have zz : zeros 1 [.int .i64 0] = [.int .i64 0] := rfl
          by_cases hxm : x < (m : Int)
          · have hE := mdX_tmod (m := m) (i := a) hx.1 hxm
            try simp (disch := first | omega | (simp only [ints_length, List.length_replicate, List.length_set]; done) | (simp only [ints_length, List.length_replicate, List.length_set]; omega)) only [Sall,evalOp,init,binE,binI,unE,convE,okNil,builtE,gv,TD.isAgg,resV,↓reduceIte,Nat.reduceEqDiff,reduceCtorEq,Nat.reduceAdd,Nat.reduceMul,Nat.reduceLeDiff,quietOp,blindOp,Int.reduceEq,Int.reduceLT,Int.reduceLE,Nat.reduceLT,ti2,ti3,ti4,ti79,ti80,ti28,ti25,ti31,ti22,ti33,ti24,ti67,ti111,ti145,ti136,ti137,ti117,ti100, h25, h24, h23, h8, h7, h19, h18, h5, h1, h4, h6, hr, g1, hxm, decide_true, zz, slCells, w64, hE]
            (repeat refine And.intro (by omega) ?_)
            obtain ⟨H4, e4⟩ : ∃ H4, H4 = H3.push ⟨2, true, [.int .i64 (mdX m a x)]⟩ := ⟨_, rfl⟩
            have n4 : H4.next = H3.next + 1 := by rw [e4]; rfl
            have s4 : ∀ i, i < H3.next → H4.row i = H3.row i := fun i hi => by rw [e4, AH.push_row, if_neg (by omega)]
            rw [← e4]
            clear e4
            refine appE_fr (k := 1) (lo := lo2) (hi := hi2) (l := mdL m a (y.take c)) (m := [mdX m a x]) (hw.same fun i _ hi => s4 i (by omega)) rfl (by omega) rfl (by omega) (by decide) (by omega) (by omega) ?_
            intro v' H5 n5 s5 f5
            try simp (disch := first | omega | (simp only [ints_length, List.length_replicate, List.length_set]; done) | (simp only [ints_length, List.length_replicate, List.length_set]; omega)) only [Sall,evalOp,init,binE,binI,unE,convE,okNil,builtE,gv,TD.isAgg,resV,↓reduceIte,Nat.reduceEqDiff,reduceCtorEq,Nat.reduceAdd,Nat.reduceMul,Nat.reduceLeDiff,quietOp,blindOp,Int.reduceEq,Int.reduceLT,Int.reduceLE,Nat.reduceLT,ti2,ti3,ti4,ti79,ti80,ti28,ti25,ti31,ti22,ti33,ti24,ti67,ti111,ti145,ti136,ti137,ti117,ti100, h25, h24, h23, h7, h19, h18, h5, h1, h4, h6, w64]
            refine ⟨y.length - (c + 1), by omega, c + 1, v', H4.next, H4.next + 1, rfl, by omega, rfl, rfl, ⟨by omega, fun i hi => by rw [s5 i (by omega) (by omega), s4 i (by omega), hup3.row i hi]⟩, by omega, by omega, by omega, ?_⟩
            rw [hsn]; exact f5
          · have hE := mdX_out (m := m) (i := a) hxm
            try simp (disch := first | omega | (simp only [ints_length, List.length_replicate, List.length_set]; done) | (simp only [ints_length, List.length_replicate, List.length_set]; omega)) only [Sall,evalOp,init,binE,binI,unE,convE,okNil,builtE,gv,TD.isAgg,resV,↓reduceIte,Nat.reduceEqDiff,reduceCtorEq,Nat.reduceAdd,Nat.reduceMul,Nat.reduceLeDiff,quietOp,blindOp,Int.reduceEq,Int.reduceLT,Int.reduceLE,Nat.reduceLT,ti2,ti3,ti4,ti79,ti80,ti28,ti25,ti31,ti22,ti33,ti24,ti67,ti111,ti145,ti136,ti137,ti117,ti100, h25, h24, h23, h8, h7, h19, h18, h5, h1, h4, h6, hr, g1, hxm, decide_false, zz, slCells, w64]
            (repeat refine And.intro (by omega) ?_)
            obtain ⟨H4, e4⟩ : ∃ H4, H4 = H3.push ⟨2, true, [.int .i64 (x)]⟩ := ⟨_, rfl⟩
            have n4 : H4.next = H3.next + 1 := by rw [e4]; rfl
            have s4 : ∀ i, i < H3.next → H4.row i = H3.row i := fun i hi => by rw [e4, AH.push_row, if_neg (by omega)]
            rw [← e4]
            clear e4
            refine appE_fr (k := 1) (lo := lo2) (hi := hi2) (l := mdL m a (y.take c)) (m := [x]) (hw.same fun i _ hi => s4 i (by omega)) rfl (by omega) rfl (by omega) (by decide) (by omega) (by omega) ?_
            intro v' H5 n5 s5 f5
            try simp (disch := first | omega | (simp only [ints_length, List.length_replicate, List.length_set]; done) | (simp only [ints_length, List.length_replicate, List.length_set]; omega)) only [Sall,evalOp,init,binE,binI,unE,convE,okNil,builtE,gv,TD.isAgg,resV,↓reduceIte,Nat.reduceEqDiff,reduceCtorEq,Nat.reduceAdd,Nat.reduceMul,Nat.reduceLeDiff,quietOp,blindOp,Int.reduceEq,Int.reduceLT,Int.reduceLE,Nat.reduceLT,ti2,ti3,ti4,ti79,ti80,ti28,ti25,ti31,ti22,ti33,ti24,ti67,ti111,ti145,ti136,ti137,ti117,ti100, h25, h24, h23, h7, h19, h18, h5, h1, h4, h6, w64]
            refine ⟨y.length - (c + 1), by omega, c + 1, v', H4.next, H4.next + 1, rfl, by omega, rfl, rfl, ⟨by omega, fun i hi => by rw [s5 i (by omega) (by omega), s4 i (by omega), hup3.row i hi]⟩, by omega, by omega, by omega, ?_⟩
            rw [hsn, hE]; exact f5
        · have hc : c = y.length := by omega
          subst hc
          rw [List.take_length] at hw
          have zz : zeros 1 [.slice none 0 0] = [.slice none 0 0] := rfl
          have ho := hw.rd.one
          have hc1 := cells_of_one ho
          have hc2 := noTuple_of_one ho
          have r3 : H3.row (H.next + 1) = some ⟨117, true, [.int .i64 n, u]⟩ := by rw [hup3.row _ (by omega), r1]
          have r30 : H3.row H.next = some ⟨117, true, [.int .i64 0, .slice none 0 0]⟩ := by rw [hup3.row _ (by omega), r0]
          have hne : ¬ H.next + 1 = H3.next := by omega
          try simp (disch := first | omega | (simp only [ints_length, List.length_replicate, List.length_set]; done) | (simp only [ints_length, List.length_replicate, List.length_set]; omega)) only [Sall,evalOp,init,binE,binI,unE,convE,okNil,builtE,gv,TD.isAgg,resV,↓reduceIte,Nat.reduceEqDiff,reduceCtorEq,Nat.reduceAdd,Nat.reduceMul,Nat.reduceLeDiff,quietOp,blindOp,Int.reduceEq,Int.reduceLT,Int.reduceLE,Nat.reduceLT,ti2,ti3,ti4,ti79,ti80,ti28,ti25,ti31,ti22,ti33,ti24,ti67,ti111,ti145,ti136,ti137,ti117,ti100, h8, h7, h19, h18, h5, h1, h4, h6, r3, zz, slCells, ho, hc1, hc2, hne]
          obtain ⟨H4, e4⟩ : ∃ H4, H4 = H3.push ⟨28, true, [w]⟩ := ⟨_, rfl⟩
          have n4 : H4.next = H3.next + 1 := by rw [e4]; rfl
          have s4 : ∀ i, i < H3.next → H4.row i = H3.row i := fun i hi => by rw [e4, AH.push_row, if_neg (by omega)]
          rw [← e4]
          clear e4
          refine appE_fr2 (lo := lo) (hi := hi) (hf.same fun i _ hi => by rw [s4 i (by omega), hup3.row i (by omega)]) ((hw.same fun i _ hi => s4 i (by omega)).wide (by omega) (by omega)) rfl (by decide) (by rw [madeL_length]; omega) hlh (by omega) ?_
          intro v' H5 n5 s5 f5
          have r5 : H5.row (H.next + 1) = some ⟨117, true, [.int .i64 n, u]⟩ := by rw [s5 _ (by omega) (by omega), s4 _ (by omega), r3]
          have r50 : H5.row H.next = some ⟨117, true, [.int .i64 0, .slice none 0 0]⟩ := by rw [s5 _ (by omega) (by omega), s4 _ (by omega), r30]
          have o5 := f5.rd.one
          try simp (disch := first | omega | (simp only [ints_length, List.length_replicate, List.length_set]; done) | (simp only [ints_length, List.length_replicate, List.length_set]; omega)) only [Sall,evalOp,init,binE,binI,unE,convE,okNil,builtE,gv,TD.isAgg,resV,↓reduceIte,Nat.reduceEqDiff,reduceCtorEq,Nat.reduceAdd,Nat.reduceMul,Nat.reduceLeDiff,quietOp,blindOp,Int.reduceEq,Int.reduceLT,Int.reduceLE,Nat.reduceLT,ti2,ti3,ti4,ti79,ti80,ti28,ti25,ti31,ti22,ti33,ti24,ti67,ti111,ti145,ti136,ti137,ti117,ti100, h19, h18, h5, h1, h4, h6, r5, o5, w64]
          refine ⟨m - (a + 1), by omega, a + 1, v', lo, H4.next + 1, rfl, by omega, rfl, Up.set ⟨by omega, fun i hi => by rw [s5 i (by omega) (by omega), s4 i (by omega), hup3.row i (by omega), hup.row i hi]⟩ (by omega) _, by omega, ?_, ?_, by omega, by omega, by omega, ?_⟩
          · exact r50
          · rfl
          · rw [madeL_succ]
            exact f5.same fun i hi _ => by rw [AH.setCells_row, if_neg (by omega)]
    · have ha : a = m := by omega
      subst ha
      have ho := hf.rd.one
      try simp (disch := first | omega | (simp only [ints_length, List.length_replicate, List.length_set]; done) | (simp only [ints_length, List.length_replicate, List.length_set]; omega)) only [Sall,evalOp,init,binE,binI,unE,convE,okNil,builtE,gv,TD.isAgg,resV,↓reduceIte,Nat.reduceEqDiff,reduceCtorEq,Nat.reduceAdd,Nat.reduceMul,Nat.reduceLeDiff,quietOp,blindOp,Int.reduceEq,Int.reduceLT,Int.reduceLE,Nat.reduceLT,ti2,ti3,ti4,ti79,ti80,ti28,ti25,ti31,ti22,ti33,ti24,ti67,ti111,ti145,ti136,ti137,ti117,ti100, h6, h4, r0, r1, ho]
      refine ⟨u, rfl, hup.set (Nat.le_refl _) _, ?_⟩
      exact (hf.same (H' := H'.setCells H.next [.int .i64 n, u]) fun i hi _ => by rw [AH.setCells_row, if_neg (by omega)]).wide (by omega) (by simp only [AH.setCells_next]; omega)

theorem l06Made_c (n : Nat) (hn : 1 ≤ n ∧ n ≤ 16) (v : Value) (y : List Int) (H : AH) (hv : Rd 1 H v y.length y) (hy : y.length ≤ 64) (hin : ∀ x ∈ y, 0 ≤ x ∧ x < (n : Int)) :
    ACalls Try.prog 130 [.int .i64 n, v] H (FrE n (madeL (mOf n) y (mOf n)) H) := by
  refine ACalls.wf (by kernel_rfl) fun hs => acalls_of_awp [.cell 4 117] Try.func130 (by kernel_rfl) rfl rfl (Nat.le_of_ble_eq_true rfl) (by kernel_rfl) ?_
  have em : Int.tmod (n : Int) 4 = ((n % 4 : Nat) : Int) := rfl
  obtain ⟨m, hm⟩ : ∃ m, m = mOf n := ⟨_, rfl⟩
  have em2 : (n : Int) - 1 + ((n % 4 : Nat) : Int) = (m : Int) := by rw [hm]; unfold mOf; omega
  have hm1 : 1 ≤ m ∨ m = 0 := by omega
  have hm2 : m ≤ 19 := by rw [hm]; unfold mOf; omega
  rw [← hm]
  try simp (disch := first | omega | (simp only [ints_length, List.length_replicate, List.length_set]; done) | (simp only [ints_length, List.length_replicate, List.length_set]; omega)) only [Sall,evalOp,init,binE,binI,unE,convE,okNil,builtE,gv,TD.isAgg,resV,↓reduceIte,Nat.reduceEqDiff,reduceCtorEq,Nat.reduceAdd,Nat.reduceMul,Nat.reduceLeDiff,quietOp,blindOp,Int.reduceEq,Int.reduceLT,Int.reduceLE,Nat.reduceLT,ti2,ti3,ti4,ti79,ti80,ti28,ti25,ti31,ti22,ti33,ti24,ti67,ti111,ti145,ti136,ti137,ti117,ti100, w64, em, em2]
  refine awp_loop (fun z t H' => ∃ (a : Nat) (u : Value) (lo hi : Nat), z = m - a ∧ a ≤ m ∧ t 7 = .int .i64 a ∧ t 6 = .int .i64 m ∧ t 1 = v ∧ t 4 = .pointer (some ⟨H.next, 0, none⟩) ∧ t 5 = .pointer (some ⟨H.next + 2, 0, none⟩) ∧ Up H.next H H' ∧ H.next + 3 ≤ H'.next ∧
    H'.row H.next = some ⟨117, true, [.int .i64 0, .slice none 0 0]⟩ ∧ H'.row (H.next + 2) = some ⟨117, true, [.int .i64 n, u]⟩ ∧ H.next + 1 ≤ lo ∧ lo ≤ hi ∧ hi ≤ H'.next ∧ Fr2 1 28 2 lo hi H' u (madeL m y a)) m ?_ ?_
  · refine ⟨0, .slice (some ⟨H.next + 1, 0, some 1⟩) 0 0, H.next + 1, H.next + 2, by omega, by omega, ?_⟩
    try simp (disch := first | omega | (simp only [ints_length, List.length_replicate, List.length_set]; done) | (simp only [ints_length, List.length_replicate, List.length_set]; omega)) only [Sall,evalOp,init,binE,binI,unE,convE,okNil,builtE,gv,TD.isAgg,resV,↓reduceIte,Nat.reduceEqDiff,reduceCtorEq,Nat.reduceAdd,Nat.reduceMul,Nat.reduceLeDiff,quietOp,blindOp,Int.reduceEq,Int.reduceLT,Int.reduceLE,Nat.reduceLT,ti2,ti3,ti4,ti79,ti80,ti28,ti25,ti31,ti22,ti33,ti24,ti67,ti111,ti145,ti136,ti137,ti117,ti100, Int.natCast_zero, zeros_zero]
    refine ⟨(((((Up.refl _ H).push (by omega) _).push (by simp only [AH.push_next]; omega) _).push (by simp only [AH.push_next]; omega) _).set (by omega) _), ?_⟩
    (repeat refine And.intro (by omega) ?_)
    exact .inr ⟨H.next + 1, [], fun _ => H.next + 2, by omega, by omega, rfl, by simp [AH.setCells_row, AH.push_row, AH.push_next], rfl, by dsimp only; omega, by dsimp only; omega, .inl (by dsimp only; omega), fun _ => Nat.le_refl _, fun j hj => by simp [madeL] at hj⟩
  · rintro z t H' ⟨a, u, lo, hi, hz, ham, h7, h6, h1, h4, h5, hup, hnx, r0, r1, hlo, hlh, hhi, hf⟩
    have hup1 := hup.next
    try simp (disch := first | omega | (simp only [ints_length, List.length_replicate, List.length_set]; done) | (simp only [ints_length, List.length_replicate, List.length_set]; omega)) only [Sall,evalOp,init,binE,binI,unE,convE,okNil,builtE,gv,TD.isAgg,resV,↓reduceIte,Nat.reduceEqDiff,reduceCtorEq,Nat.reduceAdd,Nat.reduceMul,Nat.reduceLeDiff,quietOp,blindOp,Int.reduceEq,Int.reduceLT,Int.reduceLE,Nat.reduceLT,ti2,ti3,ti4,ti79,ti80,ti28,ti25,ti31,ti22,ti33,ti24,ti67,ti111,ti145,ti136,ti137,ti117,ti100, h7, h6]
    refine condC_dec (fun h => ?_) (fun h => ?_)
    · have hv1 : Rd 1 H' v y.length y := hv.same (hup.le hs).row
      have hln := hv1.len
      have hln2 : ∀ H2 : AH, (asSl v (Out.val (Value.int IntKind.i64 0) H2) fun _ _ _ n _ => Out.val (Value.int IntKind.i64 (n : Int)) H2) = Out.val (Value.int IntKind.i64 y.length) H2 := fun H2 => hln H2
      try simp (disch := first | omega | (simp only [ints_length, List.length_replicate, List.length_set]; done) | (simp only [ints_length, List.length_replicate, List.length_set]; omega)) only [Sall,evalOp,init,binE,binI,unE,convE,okNil,builtE,gv,TD.isAgg,resV,↓reduceIte,Nat.reduceEqDiff,reduceCtorEq,Nat.reduceAdd,Nat.reduceMul,Nat.reduceLeDiff,quietOp,blindOp,Int.reduceEq,Int.reduceLT,Int.reduceLE,Nat.reduceLT,ti2,ti3,ti4,ti79,ti80,ti28,ti25,ti31,ti22,ti33,ti24,ti67,ti111,ti145,ti136,ti137,ti117,ti100, h7, h6, h1, h4, h5, zeros_zero]
      refine awp_loop (fun z t H3 => ∃ (c : Nat) (w : Value) (lo2 hi2 : Nat), z = y.length - c ∧ c ≤ y.length ∧ t 9 = .int .i64 c ∧ t 8 = w ∧ t 7 = .int .i64 a ∧ t 6 = .int .i64 m ∧ t 1 = v ∧ t 4 = .pointer (some ⟨H.next, 0, none⟩) ∧ t 5 = .pointer (some ⟨H.next + 2, 0, none⟩) ∧ Up H'.next H' H3 ∧ H'.next ≤ lo2 ∧ lo2 ≤ hi2 ∧ hi2 ≤ H3.next ∧ Fr 1 2 lo2 hi2 H3 w c (mdL m a (y.take c))) y.length ?_ ?_
      · refine ⟨0, .slice (some ⟨H'.next, 0, some 1⟩) 0 0, H'.next, H'.next + 1, by omega, by omega, ?_⟩
        try simp (disch := first | omega | (simp only [ints_length, List.length_replicate, List.length_set]; done) | (simp only [ints_length, List.length_replicate, List.length_set]; omega)) only [Sall,evalOp,init,binE,binI,unE,convE,okNil,builtE,gv,TD.isAgg,resV,↓reduceIte,Nat.reduceEqDiff,reduceCtorEq,Nat.reduceAdd,Nat.reduceMul,Nat.reduceLeDiff,quietOp,blindOp,Int.reduceEq,Int.reduceLT,Int.reduceLE,Nat.reduceLT,ti2,ti3,ti4,ti79,ti80,ti28,ti25,ti31,ti22,ti33,ti24,ti67,ti111,ti145,ti136,ti137,ti117,ti100, Int.natCast_zero, h7, h6, h1, h4, h5]
        refine ⟨(Up.refl _ H').push (by omega) _, ?_⟩
        (repeat refine And.intro (by omega) ?_)
        exact ⟨by simp [mdL], .inr ⟨H'.next, Nat.le_refl _, Nat.lt_succ_self _, rfl, by rw [AH.push_row, if_pos rfl]; rfl⟩⟩
      · rintro z t H3 ⟨c, w, lo2, hi2, hz, hcn, h9, h8, h7, h6, h1, h4, h5, hup3, hlo2, hlh2, hhi2, hw⟩
        have hup31 := hup3.next
        have hv30 : Rd 1 H3 v y.length y := hv.same fun i r hr => by rw [hup3.row i (by have := hs _ _ hr; omega), hup.row i (hs _ _ hr)]; exact hr
        try simp (disch := first | omega | (simp only [ints_length, List.length_replicate, List.length_set]; done) | (simp only [ints_length, List.length_replicate, List.length_set]; omega)) only [Sall,evalOp,init,binE,binI,unE,convE,okNil,builtE,gv,TD.isAgg,resV,↓reduceIte,Nat.reduceEqDiff,reduceCtorEq,Nat.reduceAdd,Nat.reduceMul,Nat.reduceLeDiff,quietOp,blindOp,Int.reduceEq,Int.reduceLT,Int.reduceLE,Nat.reduceLT,ti2,ti3,ti4,ti79,ti80,ti28,ti25,ti31,ti22,ti33,ti24,ti67,ti111,ti145,ti136,ti137,ti117,ti100, h9, h1, builtE, hv30.len]
        refine condC_dec (fun hh => ?_) (fun hh => ?_)
        · have hv3 : Rd 1 H3 v y.length y := hv.same fun i r hr => by rw [hup3.row i (by have := hs _ _ hr; omega), hup.row i (hs _ _ hr)]; exact hr
          obtain ⟨i, o, uu, cc, r, rfl, hr, hc, hg, _⟩ := hv3.get (by omega)
          have g1 := hg c (by omega)
          have hx := hin (y.getD c 0) (by rw [List.getD_eq_getElem?_getD, List.getElem?_eq_getElem (by omega)]; exact List.getElem_mem _)
          have hsn := mdL_snoc m a y c (by omega)
          revert g1 hx hsn
          generalize y.getD c 0 = x
          intro g1 hx hsn
          have zz : zeros 1 [.int .i64 0] = [.int .i64 0] := rfl
          by_cases hxm : x < (m : Int)
          · have hE := mdX_tmod (m := m) (i := a) hx.1 hxm
            try simp (disch := first | omega | (simp only [ints_length, List.length_replicate, List.length_set]; done) | (simp only [ints_length, List.length_replicate, List.length_set]; omega)) only [Sall,evalOp,init,binE,binI,unE,convE,okNil,builtE,gv,TD.isAgg,resV,↓reduceIte,Nat.reduceEqDiff,reduceCtorEq,Nat.reduceAdd,Nat.reduceMul,Nat.reduceLeDiff,quietOp,blindOp,Int.reduceEq,Int.reduceLT,Int.reduceLE,Nat.reduceLT,ti2,ti3,ti4,ti79,ti80,ti28,ti25,ti31,ti22,ti33,ti24,ti67,ti111,ti145,ti136,ti137,ti117,ti100, h9, h8, h7, h6, h1, h4, h5, hr, g1, hxm, decide_true, zz, slCells, w64, hE]
            (repeat refine And.intro (by omega) ?_)
            obtain ⟨H4, e4⟩ : ∃ H4, H4 = H3.push ⟨2, true, [.int .i64 (mdX m a x)]⟩ := ⟨_, rfl⟩
            have n4 : H4.next = H3.next + 1 := by rw [e4]; rfl
            have s4 : ∀ i, i < H3.next → H4.row i = H3.row i := fun i hi => by rw [e4, AH.push_row, if_neg (by omega)]
            rw [← e4]
            clear e4
            refine appE_fr (k := 1) (lo := lo2) (hi := hi2) (l := mdL m a (y.take c)) (m := [mdX m a x]) (hw.same fun i _ hi => s4 i (by omega)) rfl (by omega) rfl (by omega) (by decide) (by omega) (by omega) ?_
            intro v' H5 n5 s5 f5
            try simp (disch := first | omega | (simp only [ints_length, List.length_replicate, List.length_set]; done) | (simp only [ints_length, List.length_replicate, List.length_set]; omega)) only [Sall,evalOp,init,binE,binI,unE,convE,okNil,builtE,gv,TD.isAgg,resV,↓reduceIte,Nat.reduceEqDiff,reduceCtorEq,Nat.reduceAdd,Nat.reduceMul,Nat.reduceLeDiff,quietOp,blindOp,Int.reduceEq,Int.reduceLT,Int.reduceLE,Nat.reduceLT,ti2,ti3,ti4,ti79,ti80,ti28,ti25,ti31,ti22,ti33,ti24,ti67,ti111,ti145,ti136,ti137,ti117,ti100, h9, h7, h6, h1, h4, h5, w64]
            refine ⟨y.length - (c + 1), by omega, c + 1, v', H4.next, H4.next + 1, rfl, by omega, rfl, rfl, ⟨by omega, fun i hi => by rw [s5 i (by omega) (by omega), s4 i (by omega), hup3.row i hi]⟩, by omega, by omega, by omega, ?_⟩
            rw [hsn]; exact f5
          · have hE := mdX_out (m := m) (i := a) hxm
            try simp (disch := first | omega | (simp only [ints_length, List.length_replicate, List.length_set]; done) | (simp only [ints_length, List.length_replicate, List.length_set]; omega)) only [Sall,evalOp,init,binE,binI,unE,convE,okNil,builtE,gv,TD.isAgg,resV,↓reduceIte,Nat.reduceEqDiff,reduceCtorEq,Nat.reduceAdd,Nat.reduceMul,Nat.reduceLeDiff,quietOp,blindOp,Int.reduceEq,Int.reduceLT,Int.reduceLE,Nat.reduceLT,ti2,ti3,ti4,ti79,ti80,ti28,ti25,ti31,ti22,ti33,ti24,ti67,ti111,ti145,ti136,ti137,ti117,ti100, h9, h8, h7, h6, h1, h4, h5, hr, g1, hxm, decide_false, zz, slCells, w64]
            (repeat refine And.intro (by omega) ?_)
            obtain ⟨H4, e4⟩ : ∃ H4, H4 = H3.push ⟨2, true, [.int .i64 (x)]⟩ := ⟨_, rfl⟩
            have n4 : H4.next = H3.next + 1 := by rw [e4]; rfl
            have s4 : ∀ i, i < H3.next → H4.row i = H3.row i := fun i hi => by rw [e4, AH.push_row, if_neg (by omega)]
            rw [← e4]
            clear e4
            refine appE_fr (k := 1) (lo := lo2) (hi := hi2) (l := mdL m a (y.take c)) (m := [x]) (hw.same fun i _ hi => s4 i (by omega)) rfl (by omega) rfl (by omega) (by decide) (by omega) (by omega) ?_
            intro v' H5 n5 s5 f5
            try simp (disch := first | omega | (simp only [ints_length, List.length_replicate, List.length_set]; done) | (simp only [ints_length, List.length_replicate, List.length_set]; omega)) only [Sall,evalOp,init,binE,binI,unE,convE,okNil,builtE,gv,TD.isAgg,resV,↓reduceIte,Nat.reduceEqDiff,reduceCtorEq,Nat.reduceAdd,Nat.reduceMul,Nat.reduceLeDiff,quietOp,blindOp,Int.reduceEq,Int.reduceLT,Int.reduceLE,Nat.reduceLT,ti2,ti3,ti4,ti79,ti80,ti28,ti25,ti31,ti22,ti33,ti24,ti67,ti111,ti145,ti136,ti137,ti117,ti100, h9, h7, h6, h1, h4, h5, w64]
            refine ⟨y.length - (c + 1), by omega, c + 1, v', H4.next, H4.next + 1, rfl, by omega, rfl, rfl, ⟨by omega, fun i hi => by rw [s5 i (by omega) (by omega), s4 i (by omega), hup3.row i hi]⟩, by omega, by omega, by omega, ?_⟩
            rw [hsn, hE]; exact f5
        · have hc : c = y.length := by omega
          subst hc
          rw [List.take_length] at hw
          have zz : zeros 1 [.slice none 0 0] = [.slice none 0 0] := rfl
          have ho := hw.rd.one
          have hc1 := cells_of_one ho
          have hc2 := noTuple_of_one ho
          have r3 : H3.row (H.next + 2) = some ⟨117, true, [.int .i64 n, u]⟩ := by rw [hup3.row _ (by omega), r1]
          have r30 : H3.row H.next = some ⟨117, true, [.int .i64 0, .slice none 0 0]⟩ := by rw [hup3.row _ (by omega), r0]
          have hne : ¬ H.next + 2 = H3.next := by omega
          try simp (disch := first | omega | (simp only [ints_length, List.length_replicate, List.length_set]; done) | (simp only [ints_length, List.length_replicate, List.length_set]; omega)) only [Sall,evalOp,init,binE,binI,unE,convE,okNil,builtE,gv,TD.isAgg,resV,↓reduceIte,Nat.reduceEqDiff,reduceCtorEq,Nat.reduceAdd,Nat.reduceMul,Nat.reduceLeDiff,quietOp,blindOp,Int.reduceEq,Int.reduceLT,Int.reduceLE,Nat.reduceLT,ti2,ti3,ti4,ti79,ti80,ti28,ti25,ti31,ti22,ti33,ti24,ti67,ti111,ti145,ti136,ti137,ti117,ti100, h8, h7, h6, h1, h4, h5, r3, zz, slCells, ho, hc1, hc2, hne]
          obtain ⟨H4, e4⟩ : ∃ H4, H4 = H3.push ⟨28, true, [w]⟩ := ⟨_, rfl⟩
          have n4 : H4.next = H3.next + 1 := by rw [e4]; rfl
          have s4 : ∀ i, i < H3.next → H4.row i = H3.row i := fun i hi => by rw [e4, AH.push_row, if_neg (by omega)]
          rw [← e4]
          clear e4
          refine appE_fr2K (lo := lo) (hi := hi) (hf.same fun i _ hi => by rw [s4 i (by omega), hup3.row i (by omega)]) ((hw.same fun i _ hi => s4 i (by omega)).wide (by omega) (by omega)) rfl (by decide) (by rw [madeL_length]; omega) hlh (by omega) ?_
          intro v' H5 n5 s5 k5 f5
          have r5 : H5.row (H.next + 2) = some ⟨117, true, [.int .i64 n, u]⟩ := k5 _ _ (by omega) (by rw [s4 _ (by omega), r3]) (show ¬ (117 : Nat) = 28 by decide)
          have r50 : H5.row H.next = some ⟨117, true, [.int .i64 0, .slice none 0 0]⟩ := by rw [s5 _ (by omega) (by omega), s4 _ (by omega), r30]
          have o5 := f5.rd.one
          try simp (disch := first | omega | (simp only [ints_length, List.length_replicate, List.length_set]; done) | (simp only [ints_length, List.length_replicate, List.length_set]; omega)) only [Sall,evalOp,init,binE,binI,unE,convE,okNil,builtE,gv,TD.isAgg,resV,↓reduceIte,Nat.reduceEqDiff,reduceCtorEq,Nat.reduceAdd,Nat.reduceMul,Nat.reduceLeDiff,quietOp,blindOp,Int.reduceEq,Int.reduceLT,Int.reduceLE,Nat.reduceLT,ti2,ti3,ti4,ti79,ti80,ti28,ti25,ti31,ti22,ti33,ti24,ti67,ti111,ti145,ti136,ti137,ti117,ti100, h7, h6, h1, h4, h5, r5, o5, w64]
          refine ⟨m - (a + 1), by omega, a + 1, v', lo, H4.next + 1, rfl, by omega, rfl, Up.set ⟨by omega, fun i hi => by rw [s5 i (by omega) (by omega), s4 i (by omega), hup3.row i (by omega), hup.row i hi]⟩ (by omega) _, by omega, ?_, ?_, by omega, by omega, by omega, ?_⟩
          · exact r50
          · rfl
          · rw [madeL_succ]
            refine f5.sameR fun i r hi1 hi2 hir hty => ?_
            rw [AH.setCells_row, if_neg]
            · exact hir
            · rintro rfl
              rw [r5] at hir
              injection hir with hir
              rw [← hir] at hty
              rcases hty with e | e
              · exact absurd (show (117 : Nat) = 28 from e) (by decide)
              · exact absurd (show (117 : Nat) = 2 from e) (by decide)
    · have ha : a = m := by omega
      subst ha
      have ho := hf.rd.one
      try simp (disch := first | omega | (simp only [ints_length, List.length_replicate, List.length_set]; done) | (simp only [ints_length, List.length_replicate, List.length_set]; omega)) only [Sall,evalOp,init,binE,binI,unE,convE,okNil,builtE,gv,TD.isAgg,resV,↓reduceIte,Nat.reduceEqDiff,reduceCtorEq,Nat.reduceAdd,Nat.reduceMul,Nat.reduceLeDiff,quietOp,blindOp,Int.reduceEq,Int.reduceLT,Int.reduceLE,Nat.reduceLT,ti2,ti3,ti4,ti79,ti80,ti28,ti25,ti31,ti22,ti33,ti24,ti67,ti111,ti145,ti136,ti137,ti117,ti100, h5, h4, r0, r1, ho]
      refine ⟨u, rfl, hup.set (Nat.le_refl _) _, ?_⟩
      exact (hf.same (H' := H'.setCells H.next [.int .i64 n, u]) fun i hi _ => by rw [AH.setCells_row, if_neg (by omega)]).wide (by omega) (by simp only [AH.setCells_next]; omega)
end Go.Proofs.Ytbmpkihggipciaa.A
end

section
set_option linter.unusedSimpArgs false
set_option linter.unusedVariables false
set_option maxRecDepth 100000
set_option maxHeartbeats 2000000
namespace Go.Proofs.Ytbmpkihggipciaa.A
open Go Go.Abs Go.RowKit

def wayL (ws : List (Nat × Nat)) : List Int := ws.flatMap fun w => [(w.1 : Int), (w.2 : Int)]
theorem wayL_length : ∀ ws : List (Nat × Nat), (wayL ws).length = ws.length * 2
  | [] => rfl
  | w :: ws => by
    have e : wayL (w :: ws) = [(w.1 : Int), (w.2 : Int)] ++ wayL ws := by simp [wayL]
    rw [e, List.length_append, wayL_length ws, List.length_cons]
    simp
    omega
theorem wayL_at : ∀ (ws : List (Nat × Nat)) (d : Nat), d < ws.length → ((wayL ws).drop (d * 2)).take 2 = [((ws.getD d (0, 0)).1 : Int), ((ws.getD d (0, 0)).2 : Int)]
  | [], d, h => by simp at h
  | w :: ws, 0, h => by simp [wayL]
  | w :: ws, d + 1, h => by
    have e : wayL (w :: ws) = [(w.1 : Int), (w.2 : Int)] ++ wayL ws := by simp [wayL]
    rw [e, show (d + 1) * 2 = 2 + d * 2 by omega, ← List.drop_drop]
    have := wayL_at ws d (by simpa using h)
    simpa using this
theorem ways_snoc (ws : List (Nat × Nat)) (d : Nat) (hd : d < ws.length) : ws.take (d + 1) = ws.take d ++ [ws.getD d (0, 0)] := take_snoc ws (0, 0) d hd

theorem together_c (n : Nat) (hn : 1 ≤ n ∧ n ≤ 16) (u : Value) (R : List (List Int)) (wv : Value) (ws : List (Nat × Nat)) (H : AH) (hu : Rd2 1 H u R) (hw : Rd 2 H wv ws.length (wayL ws)) (hws : ∀ w ∈ ws, w.1 < 4 ∧ w.2 < 4) (hwl : ws.length ≤ 4)
    (hRl : R.length ≤ 20) (hR : ∀ i, i < R.length → (R.getD i []).length ≤ 16 ∧ ∀ x ∈ R.getD i [], 0 ≤ x ∧ x < (n : Int)) :
    ACalls Try.prog 172 [.agg #[.int .i64 n, u], wv] H (fun r H' => Up H.next H H' ∧ Fr2 1 28 2 H.next H'.next H' r (tabM n ws R)) := by
  refine ACalls.wf (by kernel_rfl) fun hs => acalls_of_awp [.tmp 4] Try.func172 (by kernel_rfl) rfl rfl (Nat.le_of_ble_eq_true rfl) (by kernel_rfl) ?_
  have hone := hu.one
  have hwone := hw.one
  have up : Up H.next H (H.push ⟨117, true, [.int .i64 n, u]⟩) := (Up.refl _ H).push (Nat.le_refl _) _
  have e1 : (H.push ⟨117, true, [.int .i64 n, u]⟩).row H.next = some ⟨117, true, [.int .i64 n, u]⟩ := by rw [AH.push_row, if_pos rfl]
  have n1 : (H.push ⟨117, true, [.int .i64 n, u]⟩).next = H.next + 1 := rfl
  have sc1 : Sc (H.push ⟨117, true, [.int .i64 n, u]⟩) := Sc.push hs _
  try simp (disch := first | omega | (simp only [ints_length, List.length_replicate, List.length_set]; done) | (simp only [ints_length, List.length_replicate, List.length_set]; omega)) only [Sall,evalOp,init,binE,binI,unE,convE,okNil,builtE,gv,TD.isAgg,resV,↓reduceIte,Nat.reduceEqDiff,reduceCtorEq,Nat.reduceAdd,Nat.reduceMul,Nat.reduceLeDiff,quietOp,blindOp,Int.reduceEq,Int.reduceLT,Int.reduceLE,Nat.reduceLT,ti2,ti3,ti4,ti79,ti80,ti28,ti25,ti31,ti22,ti33,ti24,ti67,ti111,ti145,ti136,ti137,ti117,ti100, hone]
  revert up e1 n1 sc1
  generalize H.push ⟨117, true, [.int .i64 n, u]⟩ = H1
  intro up e1 n1 sc1
  try simp (disch := first | omega | (simp only [ints_length, List.length_replicate, List.length_set]; done) | (simp only [ints_length, List.length_replicate, List.length_set]; omega)) only [Sall,evalOp,init,binE,binI,unE,convE,okNil,builtE,gv,TD.isAgg,resV,↓reduceIte,Nat.reduceEqDiff,reduceCtorEq,Nat.reduceAdd,Nat.reduceMul,Nat.reduceLeDiff,quietOp,blindOp,Int.reduceEq,Int.reduceLT,Int.reduceLE,Nat.reduceLT,ti2,ti3,ti4,ti79,ti80,ti28,ti25,ti31,ti22,ti33,ti24,ti67,ti111,ti145,ti136,ti137,ti117,ti100, e1]
  refine (square_c n (by omega) H1).mono ?_
  rintro o H2 ⟨up2, hf2⟩
  have n2 := up2.next
  have e2 : H2.row H.next = some ⟨117, true, [.int .i64 n, u]⟩ := by rw [up2.row _ (by omega), e1]
  have u2 : Up H.next H H2 := up.trans up2 (by omega)
  refine Holds.mp ?_
  try simp (disch := first | omega | (simp only [ints_length, List.length_replicate, List.length_set]; done) | (simp only [ints_length, List.length_replicate, List.length_set]; omega)) only [Sall,evalOp,init,binE,binI,unE,convE,okNil,builtE,gv,TD.isAgg,resV,↓reduceIte,Nat.reduceEqDiff,reduceCtorEq,Nat.reduceAdd,Nat.reduceMul,Nat.reduceLeDiff,quietOp,blindOp,Int.reduceEq,Int.reduceLT,Int.reduceLE,Nat.reduceLT,ti2,ti3,ti4,ti79,ti80,ti28,ti25,ti31,ti22,ti33,ti24,ti67,ti111,ti145,ti136,ti137,ti117,ti100, e2, builtE, hu.len]
  refine awp_loop (fun z t H' => ∃ a : Nat, z = R.length - a ∧ a ≤ R.length ∧ t 19 = .int .i64 a ∧ t 18 = .int .i64 R.length ∧ t 17 = u ∧ t 5 = o ∧ t 1 = wv ∧ Up H.next H H' ∧ H2.next ≤ H'.next ∧ Fr2 1 28 2 H1.next H2.next H' o (cntMx n (evA n ws R a))) R.length ?_ ?_
  · refine ⟨0, by omega, by omega, ?_⟩
    try simp (disch := first | omega | (simp only [ints_length, List.length_replicate, List.length_set]; done) | (simp only [ints_length, List.length_replicate, List.length_set]; omega)) only [Sall,evalOp,init,binE,binI,unE,convE,okNil,builtE,gv,TD.isAgg,resV,↓reduceIte,Nat.reduceEqDiff,reduceCtorEq,Nat.reduceAdd,Nat.reduceMul,Nat.reduceLeDiff,quietOp,blindOp,Int.reduceEq,Int.reduceLT,Int.reduceLE,Nat.reduceLT,ti2,ti3,ti4,ti79,ti80,ti28,ti25,ti31,ti22,ti33,ti24,ti67,ti111,ti145,ti136,ti137,ti117,ti100, Int.natCast_zero]
    exact ⟨u2, by rw [show evA n ws R 0 = [] from rfl, cntMx_nil]; exact hf2⟩
  · rintro z t H' ⟨a, hz, ha, h19, h18, h17, h5, h1, hup, hnx, hf⟩
    try simp (disch := first | omega | (simp only [ints_length, List.length_replicate, List.length_set]; done) | (simp only [ints_length, List.length_replicate, List.length_set]; omega)) only [Sall,evalOp,init,binE,binI,unE,convE,okNil,builtE,gv,TD.isAgg,resV,↓reduceIte,Nat.reduceEqDiff,reduceCtorEq,Nat.reduceAdd,Nat.reduceMul,Nat.reduceLeDiff,quietOp,blindOp,Int.reduceEq,Int.reduceLT,Int.reduceLE,Nat.reduceLT,ti2,ti3,ti4,ti79,ti80,ti28,ti25,ti31,ti22,ti33,ti24,ti67,ti111,ti145,ti136,ti137,ti117,ti100, h19, h18]
    refine condC_dec (fun h => ?_) (fun h => ?_)
    · obtain ⟨xi, xo, xuu, xc, xr, y, my, ex, hxr, hy, hsx, hok⟩ := hu.get (j := a) (by omega)
      have hxr' : H'.row xi = some xr := (hup.le hs).row _ _ hxr
      obtain ⟨hl16, hin⟩ := hR a (by omega)
      have hmm := hsx.lenK1
      have hevS := evA_succ n ws R a
      have hI0 : (evA n ws R a).length ≤ 1000 := by
        have := evA_length (n := n) (ws := ws) (fun i hi => (hR i hi).1) a (by omega)
        have h2 : a * (4 * (2 * ws.length)) ≤ 20 * 32 := Nat.mul_le_mul (by omega) (by omega)
        omega
      revert hsx hl16 hin hmm hevS
      generalize R.getD a [] = l
      intro hsx hl16 hin hmm hevS
      subst hmm
      have hold : ∀ {H3 : AH}, Up H.next H H3 → Rd 1 H3 y l.length l := fun hup3 => hsx.same (hup3.le hs).row
      try simp (disch := first | omega | (simp only [ints_length, List.length_replicate, List.length_set]; done) | (simp only [ints_length, List.length_replicate, List.length_set]; omega)) only [Sall,evalOp,init,binE,binI,unE,convE,okNil,builtE,gv,TD.isAgg,resV,↓reduceIte,Nat.reduceEqDiff,reduceCtorEq,Nat.reduceAdd,Nat.reduceMul,Nat.reduceLeDiff,quietOp,blindOp,Int.reduceEq,Int.reduceLT,Int.reduceLE,Nat.reduceLT,ti2,ti3,ti4,ti79,ti80,ti28,ti25,ti31,ti22,ti33,ti24,ti67,ti111,ti145,ti136,ti137,ti117,ti100, h19, h18, h17, h5, h1, ex, hxr', hy, hok]
      (repeat refine And.intro (by omega) ?_)
      refine awp_loop (fun z t H3 => ∃ c : Nat, z = l.length / 4 - c ∧ c ≤ l.length / 4 ∧ t 8 = .int .i64 ((4 * c : Nat) : Int) ∧ t 7 = y ∧ t 19 = .int .i64 a ∧ t 18 = .int .i64 R.length ∧ t 17 = u ∧ t 5 = o ∧ t 1 = wv ∧ Up H.next H H3 ∧ H2.next ≤ H3.next ∧ Fr2 1 28 2 H1.next H2.next H3 o (cntMx n (evA n ws R a ++ evR n ws l c))) (l.length / 4) ?_ ?_
      · refine ⟨0, by omega, by omega, ?_⟩
        try simp (disch := first | omega | (simp only [ints_length, List.length_replicate, List.length_set]; done) | (simp only [ints_length, List.length_replicate, List.length_set]; omega)) only [Sall,evalOp,init,binE,binI,unE,convE,okNil,builtE,gv,TD.isAgg,resV,↓reduceIte,Nat.reduceEqDiff,reduceCtorEq,Nat.reduceAdd,Nat.reduceMul,Nat.reduceLeDiff,quietOp,blindOp,Int.reduceEq,Int.reduceLT,Int.reduceLE,Nat.reduceLT,ti2,ti3,ti4,ti79,ti80,ti28,ti25,ti31,ti22,ti33,ti24,ti67,ti111,ti145,ti136,ti137,ti117,ti100, Int.natCast_zero, h19, h18, h17, h5, h1, Nat.mul_zero]
        refine ⟨hup, hnx, ?_⟩
        rw [show evR n ws l 0 = [] from rfl, List.append_nil]; exact hf
      · rintro z t H3 ⟨c, hz, hc, h8, h7, h19, h18, h17, h5, h1, hup3, hnx3, hf3⟩
        have hl3 := (hold hup3).len
        try simp (disch := first | omega | (simp only [ints_length, List.length_replicate, List.length_set]; done) | (simp only [ints_length, List.length_replicate, List.length_set]; omega)) only [Sall,evalOp,init,binE,binI,unE,convE,okNil,builtE,gv,TD.isAgg,resV,↓reduceIte,Nat.reduceEqDiff,reduceCtorEq,Nat.reduceAdd,Nat.reduceMul,Nat.reduceLeDiff,quietOp,blindOp,Int.reduceEq,Int.reduceLT,Int.reduceLE,Nat.reduceLT,ti2,ti3,ti4,ti79,ti80,ti28,ti25,ti31,ti22,ti33,ti24,ti67,ti111,ti145,ti136,ti137,ti117,ti100, h8, h7, builtE, hl3, w64]
        refine condC_dec (fun hh => ?_) (fun hh => ?_)
        · have hw3 := hw.same (hup3.le hs).row
          try simp (disch := first | omega | (simp only [ints_length, List.length_replicate, List.length_set]; done) | (simp only [ints_length, List.length_replicate, List.length_set]; omega)) only [Sall,evalOp,init,binE,binI,unE,convE,okNil,builtE,gv,TD.isAgg,resV,↓reduceIte,Nat.reduceEqDiff,reduceCtorEq,Nat.reduceAdd,Nat.reduceMul,Nat.reduceLeDiff,quietOp,blindOp,Int.reduceEq,Int.reduceLT,Int.reduceLE,Nat.reduceLT,ti2,ti3,ti4,ti79,ti80,ti28,ti25,ti31,ti22,ti33,ti24,ti67,ti111,ti145,ti136,ti137,ti117,ti100, h8, h7, h19, h18, h17, h5, h1, builtE, hw3.len]
          refine awp_loop (fun z t H4 => ∃ d : Nat, z = ws.length - d ∧ d ≤ ws.length ∧ t 32 = .int .i64 d ∧ t 31 = .int .i64 ws.length ∧ t 30 = wv ∧ t 8 = .int .i64 ((4 * c : Nat) : Int) ∧ t 7 = y ∧ t 19 = .int .i64 a ∧ t 18 = .int .i64 R.length ∧ t 17 = u ∧ t 5 = o ∧ t 1 = wv ∧ Up H.next H H4 ∧ H2.next ≤ H4.next ∧ Fr2 1 28 2 H1.next H2.next H4 o (cntMx n (evA n ws R a ++ evR n ws l c ++ evW n (qd l c) (ws.take d)))) ws.length ?_ ?_
          · refine ⟨0, by omega, by omega, ?_⟩
            try simp (disch := first | omega | (simp only [ints_length, List.length_replicate, List.length_set]; done) | (simp only [ints_length, List.length_replicate, List.length_set]; omega)) only [Sall,evalOp,init,binE,binI,unE,convE,okNil,builtE,gv,TD.isAgg,resV,↓reduceIte,Nat.reduceEqDiff,reduceCtorEq,Nat.reduceAdd,Nat.reduceMul,Nat.reduceLeDiff,quietOp,blindOp,Int.reduceEq,Int.reduceLT,Int.reduceLE,Nat.reduceLT,ti2,ti3,ti4,ti79,ti80,ti28,ti25,ti31,ti22,ti33,ti24,ti67,ti111,ti145,ti136,ti137,ti117,ti100, Int.natCast_zero, h8, h7, h19, h18, h17, h5, h1]
            refine ⟨hup3, hnx3, ?_⟩
            rw [List.take_zero, show evW n (qd l c) [] = [] from rfl, List.append_nil]; exact hf3
          · rintro z t H4 ⟨d, hz, hd, h32, h31, h30, h8, h7, h19, h18, h17, h5, h1, hup4, hnx4, hf4⟩
            try simp (disch := first | omega | (simp only [ints_length, List.length_replicate, List.length_set]; done) | (simp only [ints_length, List.length_replicate, List.length_set]; omega)) only [Sall,evalOp,init,binE,binI,unE,convE,okNil,builtE,gv,TD.isAgg,resV,↓reduceIte,Nat.reduceEqDiff,reduceCtorEq,Nat.reduceAdd,Nat.reduceMul,Nat.reduceLeDiff,quietOp,blindOp,Int.reduceEq,Int.reduceLT,Int.reduceLE,Nat.reduceLT,ti2,ti3,ti4,ti79,ti80,ti28,ti25,ti31,ti22,ti33,ti24,ti67,ti111,ti145,ti136,ti137,ti117,ti100, h32, h31]
            refine condC_dec (fun hhh => ?_) (fun hhh => ?_)
            · have hw4 := hw.same (hup4.le hs).row
              obtain ⟨wi, wo, wu, wc, wr, ew, hwr, _, _, hwg⟩ := hw4.get (by omega)
              have hwa := hwg (d * 2) 2 (by omega)
              rw [wayL_at ws d (by omega)] at hwa
              obtain ⟨w1, w2⟩ := hws (ws.getD d (0, 0)) (getD_mem2 ws d (by omega))
              have hsn := ways_snoc ws d (by omega)
              revert hwa w1 w2 hsn
              generalize ws.getD d (0, 0) = w
              intro hwa w1 w2 hsn
              obtain ⟨yi, yo, yu, yc, yr, ey, hyr, _, hyg, _⟩ := (hold (Up.refl H.next H)).get (by omega)
              have hyi := hs _ _ hyr
              have hyr4 : H4.row yi = some yr := by rw [hup4.row _ hyi]; exact hyr
              have hup41 := hup4.next
              have hyne : ¬ yi = H4.next := by omega
              have mem : ∀ j, j < l.length → 0 ≤ l.getD j 0 ∧ l.getD j 0 < (n : Int) := fun j hj => hin _ (by rw [List.getD_eq_getElem?_getD, List.getElem?_eq_getElem hj]; exact List.getElem_mem _)
              have m1 := mem (4 * c + w.1) (by omega)
              have m2 := mem (4 * c + w.2) (by omega)
              have g1 := hyg (4 * c + w.1) (by omega)
              have g2 := hyg (4 * c + w.2) (by omega)
              have ep : l.getD (4 * c + w.1) 0 = ((qd l c w.1 : Nat) : Int) := by unfold qd; omega
              have eq : l.getD (4 * c + w.2) 0 = ((qd l c w.2 : Nat) : Int) := by unfold qd; omega
              rw [ep] at g1 m1
              rw [eq] at g2 m2
              have hA1 : (((4 * c : Nat) : Int) + (w.1 : Int)).toNat = 4 * c + w.1 := by omega
              have hA2 : (((4 * c : Nat) : Int) + (w.2 : Int)).toNat = 4 * c + w.2 := by omega
              have hev := evW_snoc n (qd l c) (ws.take d) w
              rw [← hsn] at hev
              revert g1 g2 m1 m2 hev
              generalize qd l c w.1 = p
              generalize qd l c w.2 = q
              intro m1 m2 g1 g2 hev
              have hlenI : (evA n ws R a ++ evR n ws l c ++ evW n (qd l c) (ws.take d)).length ≤ 10000 := by
                rw [List.length_append, List.length_append, evR_length, evW_length, List.length_take]
                have h1 : c * (2 * ws.length) ≤ 4 * 8 := Nat.mul_le_mul (by omega) (by omega)
                omega
              have hevX : evA n ws R a ++ evR n ws l c ++ evW n (qd l c) (ws.take (d + 1)) = (evA n ws R a ++ evR n ws l c ++ evW n (qd l c) (ws.take d)) ++ [ixN n p q] ++ [ixN n q p] := by rw [hev]; simp
              obtain ⟨I, eI⟩ : ∃ I, I = evA n ws R a ++ evR n ws l c ++ evW n (qd l c) (ws.take d) := ⟨_, rfl⟩
              rw [← eI] at hevX hlenI hf4
              try simp (disch := first | omega | (simp only [ints_length, List.length_replicate, List.length_set]; done) | (simp only [ints_length, List.length_replicate, List.length_set]; omega)) only [Sall,evalOp,init,binE,binI,unE,convE,okNil,builtE,gv,TD.isAgg,resV,↓reduceIte,Nat.reduceEqDiff,reduceCtorEq,Nat.reduceAdd,Nat.reduceMul,Nat.reduceLeDiff,quietOp,blindOp,Int.reduceEq,Int.reduceLT,Int.reduceLE,Nat.reduceLT,ti2,ti3,ti4,ti79,ti80,ti28,ti25,ti31,ti22,ti33,ti24,ti67,ti111,ti145,ti136,ti137,ti117,ti100, h32, h31, h30, h8, h7, h19, h18, h17, h5, h1, ew, hwr, hwa]
              (repeat refine And.intro (by omega) ?_)
              refine awp_cutQ (fun t H5 => t 11 = .int .i64 p ∧ t 12 = .int .i64 q ∧ t 32 = .int .i64 d ∧ t 31 = .int .i64 ws.length ∧ t 30 = wv ∧ t 8 = .int .i64 ((4 * c : Nat) : Int) ∧ t 7 = y ∧ t 19 = .int .i64 a ∧ t 18 = .int .i64 R.length ∧ t 17 = u ∧ t 5 = o ∧ t 1 = wv ∧ Up H4.next H4 H5) ?_ ?_
              · refine draw_id (by kernel_rfl) (by kernel_rfl) ?_
                have sp0 : (splice [Value.int IntKind.i64 0, Value.int IntKind.i64 0] 0 (ints [(w.1 : Int), (w.2 : Int)]))[Int.toNat 0]? = some (.int .i64 w.1) := rfl
                have sp1 : (splice [Value.int IntKind.i64 0, Value.int IntKind.i64 0] 0 (ints [(w.1 : Int), (w.2 : Int)]))[Int.toNat 1]? = some (.int .i64 w.2) := rfl
                try simp (disch := first | omega | (simp only [ints_length, List.length_replicate, List.length_set]; done) | (simp only [ints_length, List.length_replicate, List.length_set]; omega)) only [Sall,evalOp,init,binE,binI,unE,convE,okNil,builtE,gv,TD.isAgg,resV,↓reduceIte,Nat.reduceEqDiff,reduceCtorEq,Nat.reduceAdd,Nat.reduceMul,Nat.reduceLeDiff,quietOp,blindOp,Int.reduceEq,Int.reduceLT,Int.reduceLE,Nat.reduceLT,ti2,ti3,ti4,ti79,ti80,ti28,ti25,ti31,ti22,ti33,ti24,ti67,ti111,ti145,ti136,ti137,ti117,ti100, h32, h31, h30, h8, h7, h19, h18, h17, h5, h1, ey, hyr4, hyne, hA1, hA2, g1, g2, sp0, sp1, w64]
                (repeat refine And.intro (by omega) ?_)
                exact ((Up.refl _ H4).push (Nat.le_refl _) _).set (Nat.le_refl _) _
              · rintro t H5 ⟨h11, h12, h32, h31, h30, h8, h7, h19, h18, h17, h5, h1, up5⟩
                have hf5 : Fr2 1 28 2 H1.next H2.next H5 o (cntMx n I) := hf4.same fun i _ hi => up5.row i (by omega)
                have up51 := up5.next
                have hup5 : Up H.next H H5 := hup4.trans up5 hup41
                rw [awp_seq]
                refine awp_cutQ (fun t H6 => t 11 = .int .i64 p ∧ t 12 = .int .i64 q ∧ t 32 = .int .i64 d ∧ t 31 = .int .i64 ws.length ∧ t 30 = wv ∧ t 8 = .int .i64 ((4 * c : Nat) : Int) ∧ t 7 = y ∧ t 19 = .int .i64 a ∧ t 18 = .int .i64 R.length ∧ t 17 = u ∧ t 5 = o ∧ t 1 = wv ∧ Up H.next H H6 ∧ H2.next ≤ H6.next ∧ Fr2 1 28 2 H1.next H2.next H6 o (cntMx n (I ++ [ixN n p q]))) ?_ ?_
                · have hsq1 := cntMx_sq n (I)
                  have hinc1 := cntMx_inc n (I) p q (by omega) (by omega) (by omega)
                  have hrow1 := hsq1.2 p (by omega)
                  obtain ⟨mi, mvs, i6, eo, q1, q2, q3, q4, q5, q6, q7, q8, q9⟩ := hf5.setF (j := p) (by rw [hsq1.1]; omega) (by omega)
                  have hMl1 := hsq1.1
                  have q10 := q9 (incR ((cntMx n (I)).getD p []) (q : Int)) (incR_length _ _)
                  rw [hrow1] at q4
                  try simp (disch := first | omega | (simp only [ints_length, List.length_replicate, List.length_set]; done) | (simp only [ints_length, List.length_replicate, List.length_set]; omega)) only [Sall,evalOp,init,binE,binI,unE,convE,okNil,builtE,gv,TD.isAgg,resV,↓reduceIte,Nat.reduceEqDiff,reduceCtorEq,Nat.reduceAdd,Nat.reduceMul,Nat.reduceLeDiff,quietOp,blindOp,Int.reduceEq,Int.reduceLT,Int.reduceLE,Nat.reduceLT,ti2,ti3,ti4,ti79,ti80,ti28,ti25,ti31,ti22,ti33,ti24,ti67,ti111,ti145,ti136,ti137,ti117,ti100, h11, h12, h32, h31, h30, h8, h7, h19, h18, h17, h5, h1, eo, q3, q4, q8, hMl1, Int.toNat_natCast, ints_get?, ints_set, w64]
                  (repeat refine And.intro (by omega) ?_)
                  refine ⟨hup5.set (by omega) _, by omega, ?_⟩
                  rw [← hinc1]
                  rw [eo, hMl1] at q10
                  exact q10
                · rintro t H6 ⟨h11, h12, h32, h31, h30, h8, h7, h19, h18, h17, h5, h1, up6, hn6, hf6⟩
                  have hsq2 := cntMx_sq n (I ++ [ixN n p q])
                  have hinc2 := cntMx_inc n (I ++ [ixN n p q]) q p (by omega) (by omega) (by rw [List.length_append, List.length_singleton]; omega)
                  have hrow2 := hsq2.2 q (by omega)
                  obtain ⟨mi, mvs, i6, eo, q1, q2, q3, q4, q5, q6, q7, q8, q9⟩ := hf6.setF (j := q) (by rw [hsq2.1]; omega) (by omega)
                  have hMl2 := hsq2.1
                  have q10 := q9 (incR ((cntMx n (I ++ [ixN n p q])).getD q []) (p : Int)) (incR_length _ _)
                  rw [hrow2] at q4
                  try simp (disch := first | omega | (simp only [ints_length, List.length_replicate, List.length_set]; done) | (simp only [ints_length, List.length_replicate, List.length_set]; omega)) only [Sall,evalOp,init,binE,binI,unE,convE,okNil,builtE,gv,TD.isAgg,resV,↓reduceIte,Nat.reduceEqDiff,reduceCtorEq,Nat.reduceAdd,Nat.reduceMul,Nat.reduceLeDiff,quietOp,blindOp,Int.reduceEq,Int.reduceLT,Int.reduceLE,Nat.reduceLT,ti2,ti3,ti4,ti79,ti80,ti28,ti25,ti31,ti22,ti33,ti24,ti67,ti111,ti145,ti136,ti137,ti117,ti100, h11, h12, h32, h31, h30, h8, h7, h19, h18, h17, h5, h1, eo, q3, q4, q8, hMl2, Int.toNat_natCast, ints_get?, ints_set, w64]
                  (repeat refine And.intro (by omega) ?_)
                  refine ⟨ws.length - (d + 1), by omega, d + 1, rfl, by omega, by omega, up6.set (by omega) _, hn6, ?_⟩
                  rw [hevX, ← hinc2]
                  rw [eo, hMl2] at q10
                  exact q10
            · have hd2 : d = ws.length := by omega
              subst hd2
              rw [List.take_length] at hf4
              try simp (disch := first | omega | (simp only [ints_length, List.length_replicate, List.length_set]; done) | (simp only [ints_length, List.length_replicate, List.length_set]; omega)) only [Sall,evalOp,init,binE,binI,unE,convE,okNil,builtE,gv,TD.isAgg,resV,↓reduceIte,Nat.reduceEqDiff,reduceCtorEq,Nat.reduceAdd,Nat.reduceMul,Nat.reduceLeDiff,quietOp,blindOp,Int.reduceEq,Int.reduceLT,Int.reduceLE,Nat.reduceLT,ti2,ti3,ti4,ti79,ti80,ti28,ti25,ti31,ti22,ti33,ti24,ti67,ti111,ti145,ti136,ti137,ti117,ti100, h8, h7, h19, h18, h17, h5, h1, w64]
              refine ⟨l.length / 4 - (c + 1), by omega, c + 1, rfl, by omega, by omega, hup4, hnx4, ?_⟩
              rw [evR_succ, ← List.append_assoc]; exact hf4
        · have hc2 : c = l.length / 4 := by omega
          subst hc2
          try simp (disch := first | omega | (simp only [ints_length, List.length_replicate, List.length_set]; done) | (simp only [ints_length, List.length_replicate, List.length_set]; omega)) only [Sall,evalOp,init,binE,binI,unE,convE,okNil,builtE,gv,TD.isAgg,resV,↓reduceIte,Nat.reduceEqDiff,reduceCtorEq,Nat.reduceAdd,Nat.reduceMul,Nat.reduceLeDiff,quietOp,blindOp,Int.reduceEq,Int.reduceLT,Int.reduceLE,Nat.reduceLT,ti2,ti3,ti4,ti79,ti80,ti28,ti25,ti31,ti22,ti33,ti24,ti67,ti111,ti145,ti136,ti137,ti117,ti100, h19, h18, h17, h5, h1, w64]
          refine ⟨R.length - (a + 1), by omega, a + 1, rfl, by omega, by omega, hup3, hnx3, ?_⟩
          rw [hevS]; exact hf3
    · have ha2 : a = R.length := by omega
      subst ha2
      try simp (disch := first | omega | (simp only [ints_length, List.length_replicate, List.length_set]; done) | (simp only [ints_length, List.length_replicate, List.length_set]; omega)) only [Sall,evalOp,init,binE,binI,unE,convE,okNil,builtE,gv,TD.isAgg,resV,↓reduceIte,Nat.reduceEqDiff,reduceCtorEq,Nat.reduceAdd,Nat.reduceMul,Nat.reduceLeDiff,quietOp,blindOp,Int.reduceEq,Int.reduceLT,Int.reduceLE,Nat.reduceLT,ti2,ti3,ti4,ti79,ti80,ti28,ti25,ti31,ti22,ti33,ti24,ti67,ti111,ti145,ti136,ti137,ti117,ti100, h5]
      exact ⟨hup, hf.wide (by omega) hnx⟩
end Go.Proofs.Ytbmpkihggipciaa.A
end

section
set_option linter.unusedSimpArgs false
set_option linter.unusedVariables false
set_option maxRecDepth 100000
set_option maxHeartbeats 2000000
namespace Go.Proofs.Ytbmpkihggipciaa.A
open Go Go.Abs Go.RowKit

def EvOk (n : Nat) (R : List (List Int)) : Prop := R.length ≤ 20 ∧ ∀ i, i < R.length → (R.getD i []).length ≤ 16 ∧ ∀ x ∈ R.getD i [], 0 ≤ x ∧ x < (n : Int)

theorem partners_c (n : Nat) (hn : 1 ≤ n ∧ n ≤ 16) (u : Value) (R : List (List Int)) (H : AH) (hu : Rd2 1 H u R) (hR : EvOk n R) :
    ACalls Try.prog 134 [.agg #[.int .i64 n, u]] H (fun r H' => Up H.next H H' ∧ Fr2 1 28 2 H.next H'.next H' r (tabM n wP R)) := by
  refine ACalls.wf (by kernel_rfl) fun hs => acalls_of_awp [.tmp 2] Try.func134 (by kernel_rfl) rfl rfl (Nat.le_of_ble_eq_true rfl) (by kernel_rfl) ?_
  have hone := hu.one
  have zz : zeros 2 [.int .i64 0, .int .i64 0] = [.int .i64 0, .int .i64 0, .int .i64 0, .int .i64 0] := rfl
  have sp0 : splice ([.int .i64 0, .int .i64 0, .int .i64 0, .int .i64 0] : List Value) 0 [.int .i64 0, .int .i64 1] = [.int .i64 0, .int .i64 1, .int .i64 0, .int .i64 0] := rfl
  have sp1 : splice ([.int .i64 0, .int .i64 1, .int .i64 0, .int .i64 0] : List Value) 2 [.int .i64 2, .int .i64 3] = [.int .i64 0, .int .i64 1, .int .i64 2, .int .i64 3] := rfl
  try simp (disch := first | omega | (simp only [ints_length, List.length_replicate, List.length_set]; done) | (simp only [ints_length, List.length_replicate, List.length_set]; omega)) only [Sall,evalOp,init,binE,binI,unE,convE,okNil,builtE,gv,TD.isAgg,resV,↓reduceIte,Nat.reduceEqDiff,reduceCtorEq,Nat.reduceAdd,Nat.reduceMul,Nat.reduceLeDiff,quietOp,blindOp,Int.reduceEq,Int.reduceLT,Int.reduceLE,Nat.reduceLT,ti2,ti3,ti4,ti79,ti80,ti28,ti25,ti31,ti22,ti33,ti24,ti67,ti111,ti145,ti136,ti137,ti117,ti100, hone, slCells, zz, sp0, sp1]
  obtain ⟨H2, e2⟩ : ∃ H2, H2 = (H.push ⟨117, true, [.int .i64 n, u]⟩).push ⟨136, true, [.int .i64 0, .int .i64 1, .int .i64 2, .int .i64 3]⟩ := ⟨_, rfl⟩
  have up2 : Up H.next H H2 := by rw [e2]; exact ((Up.refl _ H).push (Nat.le_refl _) _).push (by simp only [AH.push_next]; omega) _
  have r2 : H2.row (H.next + 1) = some ⟨136, true, [.int .i64 0, .int .i64 1, .int .i64 2, .int .i64 3]⟩ := by rw [e2, AH.push_row, AH.push_next, if_pos rfl]
  have n2 : H2.next = H.next + 2 := by rw [e2]; rfl
  rw [← e2]
  clear e2
  refine (together_c n hn u R (.slice (some ⟨H.next + 1, 0, some 2⟩) 2 2) wP H2 (hu.same (up2.le hs).row) ⟨rfl, .inr ⟨H.next + 1, 0, _, _, _, rfl, r2, Nat.le_refl _, rfl⟩⟩ (by decide) (by decide) hR.1 hR.2).mono ?_
  rintro r H3 ⟨up3, f3⟩
  have n3 := up3.next
  have ho := f3.rd.one
  refine Holds.mp ?_
  try simp (disch := first | omega | (simp only [ints_length, List.length_replicate, List.length_set]; done) | (simp only [ints_length, List.length_replicate, List.length_set]; omega)) only [Sall,evalOp,init,binE,binI,unE,convE,okNil,builtE,gv,TD.isAgg,resV,↓reduceIte,Nat.reduceEqDiff,reduceCtorEq,Nat.reduceAdd,Nat.reduceMul,Nat.reduceLeDiff,quietOp,blindOp,Int.reduceEq,Int.reduceLT,Int.reduceLE,Nat.reduceLT,ti2,ti3,ti4,ti79,ti80,ti28,ti25,ti31,ti22,ti33,ti24,ti67,ti111,ti145,ti136,ti137,ti117,ti100, ho]
  exact ⟨up2.trans up3 (by omega), f3.wide (by omega) (Nat.le_refl _)⟩

theorem opponents0_c (n : Nat) (hn : 1 ≤ n ∧ n ≤ 16) (u : Value) (R : List (List Int)) (H : AH) (hu : Rd2 1 H u R) (hR : EvOk n R) :
    ACalls Try.prog 136 [.agg #[.int .i64 n, u], .int .i64 0] H (fun r H' => Up H.next H H' ∧ Fr2 1 28 2 H.next H'.next H' r (tabM n wO R)) := by
  have hone := hu.one
  have zz : zeros 4 [.int .i64 0, .int .i64 0] = [.int .i64 0, .int .i64 0, .int .i64 0, .int .i64 0, .int .i64 0, .int .i64 0, .int .i64 0, .int .i64 0] := rfl
  have sp0 : splice ([.int .i64 0, .int .i64 0, .int .i64 0, .int .i64 0, .int .i64 0, .int .i64 0, .int .i64 0, .int .i64 0] : List Value) 0 [.int .i64 0, .int .i64 2] = [.int .i64 0, .int .i64 2, .int .i64 0, .int .i64 0, .int .i64 0, .int .i64 0, .int .i64 0, .int .i64 0] := rfl
  have sp1 : splice ([.int .i64 0, .int .i64 2, .int .i64 0, .int .i64 0, .int .i64 0, .int .i64 0, .int .i64 0, .int .i64 0] : List Value) 2 [.int .i64 1, .int .i64 3] = [.int .i64 0, .int .i64 2, .int .i64 1, .int .i64 3, .int .i64 0, .int .i64 0, .int .i64 0, .int .i64 0] := rfl
  have sp2 : splice ([.int .i64 0, .int .i64 2, .int .i64 1, .int .i64 3, .int .i64 0, .int .i64 0, .int .i64 0, .int .i64 0] : List Value) 4 [.int .i64 0, .int .i64 3] = [.int .i64 0, .int .i64 2, .int .i64 1, .int .i64 3, .int .i64 0, .int .i64 3, .int .i64 0, .int .i64 0] := rfl
  have sp3 : splice ([.int .i64 0, .int .i64 2, .int .i64 1, .int .i64 3, .int .i64 0, .int .i64 3, .int .i64 0, .int .i64 0] : List Value) 6 [.int .i64 1, .int .i64 2] = [.int .i64 0, .int .i64 2, .int .i64 1, .int .i64 3, .int .i64 0, .int .i64 3, .int .i64 1, .int .i64 2] := rfl
  refine ACalls.wf (by kernel_rfl) fun hs => acalls_of_awp [.tmp 4] Try.func136 (by kernel_rfl) rfl rfl (Nat.le_of_ble_eq_true rfl) (by kernel_rfl) ?_
  have e1 : ((0 : Int) == 1) = false := rfl
  have e2' : ((0 : Int) == 2) = false := rfl
  try simp (disch := first | omega | (simp only [ints_length, List.length_replicate, List.length_set]; done) | (simp only [ints_length, List.length_replicate, List.length_set]; omega)) only [Sall,evalOp,init,binE,binI,unE,convE,okNil,builtE,gv,TD.isAgg,resV,↓reduceIte,Nat.reduceEqDiff,reduceCtorEq,Nat.reduceAdd,Nat.reduceMul,Nat.reduceLeDiff,quietOp,blindOp,Int.reduceEq,Int.reduceLT,Int.reduceLE,Nat.reduceLT,ti2,ti3,ti4,ti79,ti80,ti28,ti25,ti31,ti22,ti33,ti24,ti67,ti111,ti145,ti136,ti137,ti117,ti100, hone, slCells, zz, sp0, sp1, sp2, sp3, e1, e2']
  obtain ⟨H2, e2⟩ : ∃ H2, H2 = (H.push ⟨117, true, [.int .i64 n, u]⟩).push ⟨136, true, [.int .i64 0, .int .i64 2, .int .i64 1, .int .i64 3, .int .i64 0, .int .i64 3, .int .i64 1, .int .i64 2]⟩ := ⟨_, rfl⟩
  have up2 : Up H.next H H2 := by rw [e2]; exact ((Up.refl _ H).push (Nat.le_refl _) _).push (by simp only [AH.push_next]; omega) _
  have r2 : H2.row (H.next + 1) = some ⟨136, true, [.int .i64 0, .int .i64 2, .int .i64 1, .int .i64 3, .int .i64 0, .int .i64 3, .int .i64 1, .int .i64 2]⟩ := by rw [e2, AH.push_row, AH.push_next, if_pos rfl]
  have n2 : H2.next = H.next + 2 := by rw [e2]; rfl
  rw [← e2]
  clear e2
  refine (together_c n hn u R (.slice (some ⟨H.next + 1, 0, some 2⟩) 4 4) wO H2 (hu.same (up2.le hs).row) ⟨rfl, .inr ⟨H.next + 1, 0, _, _, _, rfl, r2, by decide, rfl⟩⟩ (by decide) (by decide) hR.1 hR.2).mono ?_
  rintro r H3 ⟨up3, f3⟩
  have n3 := up3.next
  have ho := f3.rd.one
  refine Holds.mp ?_
  try simp (disch := first | omega | (simp only [ints_length, List.length_replicate, List.length_set]; done) | (simp only [ints_length, List.length_replicate, List.length_set]; omega)) only [Sall,evalOp,init,binE,binI,unE,convE,okNil,builtE,gv,TD.isAgg,resV,↓reduceIte,Nat.reduceEqDiff,reduceCtorEq,Nat.reduceAdd,Nat.reduceMul,Nat.reduceLeDiff,quietOp,blindOp,Int.reduceEq,Int.reduceLT,Int.reduceLE,Nat.reduceLT,ti2,ti3,ti4,ti79,ti80,ti28,ti25,ti31,ti22,ti33,ti24,ti67,ti111,ti145,ti136,ti137,ti117,ti100, ho]
  exact ⟨up2.trans up3 (by omega), f3.wide (by omega) (Nat.le_refl _)⟩

theorem twice_c (x : Int) (H : AH) : ACalls Try.prog 174 [.int .i64 x] H (is (.bool (x == 2)) H) := by
  refine acalls_of_awp [.tmp 2] Try.func174 (by kernel_rfl) rfl rfl (Nat.le_of_ble_eq_true rfl) (by kernel_rfl) ?_
  try simp (disch := first | omega | (simp only [ints_length, List.length_replicate, List.length_set]; done) | (simp only [ints_length, List.length_replicate, List.length_set]; omega)) only [Sall,evalOp,init,binE,binI,unE,convE,okNil,builtE,gv,TD.isAgg,resV,↓reduceIte,Nat.reduceEqDiff,reduceCtorEq,Nat.reduceAdd,Nat.reduceMul,Nat.reduceLeDiff,quietOp,blindOp,Int.reduceEq,Int.reduceLT,Int.reduceLE,Nat.reduceLT,ti2,ti3,ti4,ti79,ti80,ti28,ti25,ti31,ti22,ti33,ti24,ti67,ti111,ti145,ti136,ti137,ti117,ti100, is]
theorem fb1_c (x : Int) (H : AH) : ACalls Try.prog 135 [.int .i64 x] H (is (.bool (decide (x ≤ 1))) H) := by
  refine acalls_of_awp [.tmp 2] Try.func135 (by kernel_rfl) rfl rfl (Nat.le_of_ble_eq_true rfl) (by kernel_rfl) ?_
  try simp (disch := first | omega | (simp only [ints_length, List.length_replicate, List.length_set]; done) | (simp only [ints_length, List.length_replicate, List.length_set]; omega)) only [Sall,evalOp,init,binE,binI,unE,convE,okNil,builtE,gv,TD.isAgg,resV,↓reduceIte,Nat.reduceEqDiff,reduceCtorEq,Nat.reduceAdd,Nat.reduceMul,Nat.reduceLeDiff,quietOp,blindOp,Int.reduceEq,Int.reduceLT,Int.reduceLE,Nat.reduceLT,ti2,ti3,ti4,ti79,ti80,ti28,ti25,ti31,ti22,ti33,ti24,ti67,ti111,ti145,ti136,ti137,ti117,ti100, is]
theorem fb2_c (x : Int) (H : AH) : ACalls Try.prog 137 [.int .i64 x] H (is (.bool (decide (x ≤ 2))) H) := by
  refine acalls_of_awp [.tmp 2] Try.func137 (by kernel_rfl) rfl rfl (Nat.le_of_ble_eq_true rfl) (by kernel_rfl) ?_
  try simp (disch := first | omega | (simp only [ints_length, List.length_replicate, List.length_set]; done) | (simp only [ints_length, List.length_replicate, List.length_set]; omega)) only [Sall,evalOp,init,binE,binI,unE,convE,okNil,builtE,gv,TD.isAgg,resV,↓reduceIte,Nat.reduceEqDiff,reduceCtorEq,Nat.reduceAdd,Nat.reduceMul,Nat.reduceLeDiff,quietOp,blindOp,Int.reduceEq,Int.reduceLT,Int.reduceLE,Nat.reduceLT,ti2,ti3,ti4,ti79,ti80,ti28,ti25,ti31,ti22,ti33,ti24,ti67,ti111,ti145,ti136,ti137,ti117,ti100, is]

theorem isWhistC_c (n : Nat) (hn : 1 ≤ n ∧ n ≤ 16) (y : Value) (l : List Int) (c0 : Nat) (H : AH) (h0 : H.row c0 = some ⟨2, true, [.int .i64 n]⟩) (hy : Rd 1 H y l.length l) (hl : l.length ≤ 4294967296) :
    ACalls Try.prog 173 [y, .pointer (some ⟨c0, 0, none⟩)] H (is (.bool (!decide (l.length = n - n % 4))) H) := by
  refine acalls_of_awp [.tmp 3] Try.func173 (by kernel_rfl) rfl rfl (Nat.le_of_ble_eq_true rfl) (by kernel_rfl) ?_
  have em : Int.tmod (n : Int) 4 = ((n % 4 : Nat) : Int) := rfl
  try simp (disch := first | omega | (simp only [ints_length, List.length_replicate, List.length_set]; done) | (simp only [ints_length, List.length_replicate, List.length_set]; omega)) only [Sall,evalOp,init,binE,binI,unE,convE,okNil,builtE,gv,TD.isAgg,resV,↓reduceIte,Nat.reduceEqDiff,reduceCtorEq,Nat.reduceAdd,Nat.reduceMul,Nat.reduceLeDiff,quietOp,blindOp,Int.reduceEq,Int.reduceLT,Int.reduceLE,Nat.reduceLT,ti2,ti3,ti4,ti79,ti80,ti28,ti25,ti31,ti22,ti33,ti24,ti67,ti111,ti145,ti136,ti137,ti117,ti100, true_and]
  refine draw_in [0, 2, 3, 4, 5, 1, 6, 7] (by kernel_rfl) (by kernel_rfl) (by kernel_rfl) ?_
  try simp (disch := first | omega | (simp only [ints_length, List.length_replicate, List.length_set]; done) | (simp only [ints_length, List.length_replicate, List.length_set]; omega)) only [Sall,evalOp,init,binE,binI,unE,convE,okNil,builtE,gv,TD.isAgg,resV,↓reduceIte,Nat.reduceEqDiff,reduceCtorEq,Nat.reduceAdd,Nat.reduceMul,Nat.reduceLeDiff,quietOp,blindOp,Int.reduceEq,Int.reduceLT,Int.reduceLE,Nat.reduceLT,ti2,ti3,ti4,ti79,ti80,ti28,ti25,ti31,ti22,ti33,ti24,ti67,ti111,ti145,ti136,ti137,ti117,ti100, h0, em, w64]
  refine (size_c y l H hy hl).to ?_
  refine ⟨.inr (.inr (LE.refl _)), ?_⟩
  by_cases h : l.length = n - n % 4
  · have e : ((l.length : Int) != (n : Int) - ((n % 4 : Nat) : Int)) = false := by rw [h, show (((n - n % 4 : Nat)) : Int) = (n : Int) - ((n % 4 : Nat) : Int) by omega]; exact bne_self_eq_false _
    rw [decide_eq_true h]
    try simp (disch := first | omega | (simp only [ints_length, List.length_replicate, List.length_set]; done) | (simp only [ints_length, List.length_replicate, List.length_set]; omega)) only [Sall,evalOp,init,binE,binI,unE,convE,okNil,builtE,gv,TD.isAgg,resV,↓reduceIte,Nat.reduceEqDiff,reduceCtorEq,Nat.reduceAdd,Nat.reduceMul,Nat.reduceLeDiff,quietOp,blindOp,Int.reduceEq,Int.reduceLT,Int.reduceLE,Nat.reduceLT,ti2,ti3,ti4,ti79,ti80,ti28,ti25,ti31,ti22,ti33,ti24,ti67,ti111,ti145,ti136,ti137,ti117,ti100, e, is]
  · have e : ((l.length : Int) != (n : Int) - ((n % 4 : Nat) : Int)) = true := by rw [bne_iff_ne]; omega
    rw [decide_eq_false h]
    try simp (disch := first | omega | (simp only [ints_length, List.length_replicate, List.length_set]; done) | (simp only [ints_length, List.length_replicate, List.length_set]; omega)) only [Sall,evalOp,init,binE,binI,unE,convE,okNil,builtE,gv,TD.isAgg,resV,↓reduceIte,Nat.reduceEqDiff,reduceCtorEq,Nat.reduceAdd,Nat.reduceMul,Nat.reduceLeDiff,quietOp,blindOp,Int.reduceEq,Int.reduceLT,Int.reduceLE,Nat.reduceLT,ti2,ti3,ti4,ti79,ti80,ti28,ti25,ti31,ti22,ti33,ti24,ti67,ti111,ti145,ti136,ti137,ti117,ti100, e, is]

theorem isWhist_c (n : Nat) (hn : 1 ≤ n ∧ n ≤ 16) (u : Value) (R : List (List Int)) (H : AH) (hu : Rd2 1 H u R) (hR : EvOk n R) :
    ACalls Try.prog 138 [.agg #[.int .i64 n, u]] H (is (.bool (whistB n R)) H) := by
  refine acalls_up (by simp [flat, Abs.scal]) (ACalls.wf (by kernel_rfl) fun hs => acalls_of_awp [.tmp 2] Try.func138 (by kernel_rfl) rfl rfl (Nat.le_of_ble_eq_true rfl) (by kernel_rfl) ?_)
  have hone := hu.one
  have em : Int.tmod (n : Int) 4 = ((n % 4 : Nat) : Int) := rfl
  obtain ⟨H2, e2⟩ : ∃ H2, H2 = ((H.push ⟨117, true, [.int .i64 n, u]⟩).push ⟨2, true, [.int .i64 0]⟩).setCells (H.next + 1) [.int .i64 n] := ⟨_, rfl⟩
  have up2 : Up H.next H H2 := by rw [e2]; exact (((Up.refl _ H).push (Nat.le_refl _) _).push (by simp only [AH.push_next]; omega) _).set (by omega) _
  have r0 : H2.row H.next = some ⟨117, true, [.int .i64 n, u]⟩ := by rw [e2]; simp [AH.setCells_row, AH.push_row, AH.push_next]
  have r1 : H2.row (H.next + 1) = some ⟨2, true, [.int .i64 n]⟩ := by rw [e2]; simp [AH.setCells_row, AH.push_row, AH.push_next]
  have n2 : H2.next = H.next + 2 := by rw [e2]; rfl
  have sc2 : Sc H2 := by rw [e2]; exact ((Sc.push hs _).push _).set _ _
  have zz : zeros 1 [.int .i64 0] = [.int .i64 0] := rfl
  try simp (disch := first | omega | (simp only [ints_length, List.length_replicate, List.length_set]; done) | (simp only [ints_length, List.length_replicate, List.length_set]; omega)) only [Sall,evalOp,init,binE,binI,unE,convE,okNil,builtE,gv,TD.isAgg,resV,↓reduceIte,Nat.reduceEqDiff,reduceCtorEq,Nat.reduceAdd,Nat.reduceMul,Nat.reduceLeDiff,quietOp,blindOp,Int.reduceEq,Int.reduceLT,Int.reduceLE,Nat.reduceLT,ti2,ti3,ti4,ti79,ti80,ti28,ti25,ti31,ti22,ti33,ti24,ti67,ti111,ti145,ti136,ti137,ti117,ti100, hone, zz]
  rw [← e2]
  clear e2
  have hu2 := hu.same (up2.le hs).row
  unfold whistB formB
  refine draw_in [0, 1, 2, 3, 4, 5, 7, 8, 9, 10, 11, 6, 12, 13, 14, 15, 16, 17, 18, 19] (by kernel_rfl) (by kernel_rfl) (by kernel_rfl) ?_
  by_cases h4 : n % 4 ≤ 1
  · have d1 : ¬ (1 : Int) < ((n % 4 : Nat) : Int) := by omega
    rw [decide_eq_true h4]
    try simp (disch := first | omega | (simp only [ints_length, List.length_replicate, List.length_set]; done) | (simp only [ints_length, List.length_replicate, List.length_set]; omega)) only [Sall,evalOp,init,binE,binI,unE,convE,okNil,builtE,gv,TD.isAgg,resV,↓reduceIte,Nat.reduceEqDiff,reduceCtorEq,Nat.reduceAdd,Nat.reduceMul,Nat.reduceLeDiff,quietOp,blindOp,Int.reduceEq,Int.reduceLT,Int.reduceLE,Nat.reduceLT,ti2,ti3,ti4,ti79,ti80,ti28,ti25,ti31,ti22,ti33,ti24,ti67,ti111,ti145,ti136,ti137,ti117,ti100, r0, r1, em, d1, decide_false, w64]
    refine (sizeLL_c u R H2 hu2 (by have := hR.1; omega)).to ?_
    refine ⟨.inr (.inr (LE.refl _)), ?_⟩
    by_cases hm : R.length = n - 1 + n % 4
    · have d2 : ((R.length : Int) != (n : Int) - 1 + ((n % 4 : Nat) : Int)) = false := by rw [hm, show (((n - 1 + n % 4 : Nat)) : Int) = (n : Int) - 1 + ((n % 4 : Nat) : Int) by omega]; exact bne_self_eq_false _
      rw [decide_eq_true hm]
      try simp (disch := first | omega | (simp only [ints_length, List.length_replicate, List.length_set]; done) | (simp only [ints_length, List.length_replicate, List.length_set]; omega)) only [Sall,evalOp,init,binE,binI,unE,convE,okNil,builtE,gv,TD.isAgg,resV,↓reduceIte,Nat.reduceEqDiff,reduceCtorEq,Nat.reduceAdd,Nat.reduceMul,Nat.reduceLeDiff,quietOp,blindOp,Int.reduceEq,Int.reduceLT,Int.reduceLE,Nat.reduceLT,ti2,ti3,ti4,ti79,ti80,ti28,ti25,ti31,ti22,ti33,ti24,ti67,ti111,ti145,ti136,ti137,ti117,ti100, r0, r1, em, d2, w64, List.mem_cons, List.not_mem_nil, or_false, forall_eq_or_imp, forall_eq, Array.size_empty]
      refine (containsFuncLL_c 173 [.pointer (some ⟨H.next + 1, 0, none⟩)] (fun l => !decide (l.length = n - n % 4)) u R H2 hu2 (by have := hR.1; omega) ?_).to ?_
      · intro y l hl hy
        obtain ⟨i, hi, rfl⟩ := List.getElem_of_mem hl
        have := (hR.2 i hi).1
        rw [List.getD_eq_getElem?_getD, List.getElem?_eq_getElem hi] at this
        exact isWhistC_c n hn y _ (H.next + 1) H2 r1 hy (by simp only [Option.getD_some] at this; omega)
      · refine ⟨.inr (.inr (LE.refl _)), ?_⟩
        have hany : ((List.range R.length).any fun i => !decide ((R.getD i []).length = n - n % 4)) = !((List.range R.length).all fun i => decide ((R.getD i []).length = n - n % 4)) := by
          rw [List.not_all_eq_any_not]
        rw [hany]
        cases hall : (List.range R.length).all fun i => decide ((R.getD i []).length = n - n % 4) with
        | false =>
          try simp (disch := first | omega | (simp only [ints_length, List.length_replicate, List.length_set]; done) | (simp only [ints_length, List.length_replicate, List.length_set]; omega)) only [Sall,evalOp,init,binE,binI,unE,convE,okNil,builtE,gv,TD.isAgg,resV,↓reduceIte,Nat.reduceEqDiff,reduceCtorEq,Nat.reduceAdd,Nat.reduceMul,Nat.reduceLeDiff,quietOp,blindOp,Int.reduceEq,Int.reduceLT,Int.reduceLE,Nat.reduceLT,ti2,ti3,ti4,ti79,ti80,ti28,ti25,ti31,ti22,ti33,ti24,ti67,ti111,ti145,ti136,ti137,ti117,ti100, Bool.not_false, Bool.and_false, Bool.false_and]
          exact up2
        | true =>
          try simp (disch := first | omega | (simp only [ints_length, List.length_replicate, List.length_set]; done) | (simp only [ints_length, List.length_replicate, List.length_set]; omega)) only [Sall,evalOp,init,binE,binI,unE,convE,okNil,builtE,gv,TD.isAgg,resV,↓reduceIte,Nat.reduceEqDiff,reduceCtorEq,Nat.reduceAdd,Nat.reduceMul,Nat.reduceLeDiff,quietOp,blindOp,Int.reduceEq,Int.reduceLT,Int.reduceLE,Nat.reduceLT,ti2,ti3,ti4,ti79,ti80,ti28,ti25,ti31,ti22,ti33,ti24,ti67,ti111,ti145,ti136,ti137,ti117,ti100, Bool.not_true, Bool.true_and, r0]
          refine (partners_c n hn u R H2 hu2 hR).sc.mono ?_
          rintro v3 H3 ⟨⟨up3, f3⟩, sc3⟩
          have n3 := up3.next
          have r03 : H3.row H.next = some ⟨117, true, [.int .i64 n, u]⟩ := by rw [up3.row _ (by omega), r0]
          have U3 : Up H.next H H3 := up2.trans up3 (by omega)
          refine Holds.mp ?_
          try simp (disch := first | omega | (simp only [ints_length, List.length_replicate, List.length_set]; done) | (simp only [ints_length, List.length_replicate, List.length_set]; omega)) only [Sall,evalOp,init,binE,binI,unE,convE,okNil,builtE,gv,TD.isAgg,resV,↓reduceIte,Nat.reduceEqDiff,reduceCtorEq,Nat.reduceAdd,Nat.reduceMul,Nat.reduceLeDiff,quietOp,blindOp,Int.reduceEq,Int.reduceLT,Int.reduceLE,Nat.reduceLT,ti2,ti3,ti4,ti79,ti80,ti28,ti25,ti31,ti22,ti33,ti24,ti67,ti111,ti145,ti136,ti137,ti117,ti100, true_and]
          refine (areAll_c 108 (fun x => x == 1) once_c v3 n _ H3 f3.rd (tabM_sq _ _ _) (by omega)).to ?_
          cases h1 : eachB (fun x => x == 1) (tabM n wP R) with
          | false =>
            try simp (disch := first | omega | (simp only [ints_length, List.length_replicate, List.length_set]; done) | (simp only [ints_length, List.length_replicate, List.length_set]; omega)) only [Sall,evalOp,init,binE,binI,unE,convE,okNil,builtE,gv,TD.isAgg,resV,↓reduceIte,Nat.reduceEqDiff,reduceCtorEq,Nat.reduceAdd,Nat.reduceMul,Nat.reduceLeDiff,quietOp,blindOp,Int.reduceEq,Int.reduceLT,Int.reduceLE,Nat.reduceLT,ti2,ti3,ti4,ti79,ti80,ti28,ti25,ti31,ti22,ti33,ti24,ti67,ti111,ti145,ti136,ti137,ti117,ti100, Bool.false_and]
            exact ⟨rfl, U3⟩
          | true =>
            try simp (disch := first | omega | (simp only [ints_length, List.length_replicate, List.length_set]; done) | (simp only [ints_length, List.length_replicate, List.length_set]; omega)) only [Sall,evalOp,init,binE,binI,unE,convE,okNil,builtE,gv,TD.isAgg,resV,↓reduceIte,Nat.reduceEqDiff,reduceCtorEq,Nat.reduceAdd,Nat.reduceMul,Nat.reduceLeDiff,quietOp,blindOp,Int.reduceEq,Int.reduceLT,Int.reduceLE,Nat.reduceLT,ti2,ti3,ti4,ti79,ti80,ti28,ti25,ti31,ti22,ti33,ti24,ti67,ti111,ti145,ti136,ti137,ti117,ti100, Bool.true_and, r03]
            refine (opponents0_c n hn u R H3 (hu.same (U3.le hs).row) hR).mono ?_
            rintro v4 H4 ⟨up4, f4⟩
            have n4 := up4.next
            refine Holds.mp ?_
            try simp (disch := first | omega | (simp only [ints_length, List.length_replicate, List.length_set]; done) | (simp only [ints_length, List.length_replicate, List.length_set]; omega)) only [Sall,evalOp,init,binE,binI,unE,convE,okNil,builtE,gv,TD.isAgg,resV,↓reduceIte,Nat.reduceEqDiff,reduceCtorEq,Nat.reduceAdd,Nat.reduceMul,Nat.reduceLeDiff,quietOp,blindOp,Int.reduceEq,Int.reduceLT,Int.reduceLE,Nat.reduceLT,ti2,ti3,ti4,ti79,ti80,ti28,ti25,ti31,ti22,ti33,ti24,ti67,ti111,ti145,ti136,ti137,ti117,ti100, true_and]
            refine (areAll_c 174 (fun x => x == 2) twice_c v4 n _ H4 f4.rd (tabM_sq _ _ _) (by omega)).to ?_
            try simp (disch := first | omega | (simp only [ints_length, List.length_replicate, List.length_set]; done) | (simp only [ints_length, List.length_replicate, List.length_set]; omega)) only [Sall,evalOp,init,binE,binI,unE,convE,okNil,builtE,gv,TD.isAgg,resV,↓reduceIte,Nat.reduceEqDiff,reduceCtorEq,Nat.reduceAdd,Nat.reduceMul,Nat.reduceLeDiff,quietOp,blindOp,Int.reduceEq,Int.reduceLT,Int.reduceLE,Nat.reduceLT,ti2,ti3,ti4,ti79,ti80,ti28,ti25,ti31,ti22,ti33,ti24,ti67,ti111,ti145,ti136,ti137,ti117,ti100, true_and]
            exact ⟨rfl, U3.trans up4 (by omega)⟩
    · have d2 : ((R.length : Int) != (n : Int) - 1 + ((n % 4 : Nat) : Int)) = true := by rw [bne_iff_ne]; omega
      rw [decide_eq_false hm]
      try simp (disch := first | omega | (simp only [ints_length, List.length_replicate, List.length_set]; done) | (simp only [ints_length, List.length_replicate, List.length_set]; omega)) only [Sall,evalOp,init,binE,binI,unE,convE,okNil,builtE,gv,TD.isAgg,resV,↓reduceIte,Nat.reduceEqDiff,reduceCtorEq,Nat.reduceAdd,Nat.reduceMul,Nat.reduceLeDiff,quietOp,blindOp,Int.reduceEq,Int.reduceLT,Int.reduceLE,Nat.reduceLT,ti2,ti3,ti4,ti79,ti80,ti28,ti25,ti31,ti22,ti33,ti24,ti67,ti111,ti145,ti136,ti137,ti117,ti100, r0, r1, em, d2, Bool.and_false, Bool.false_and, w64]
      exact up2
  · have d1 : (1 : Int) < ((n % 4 : Nat) : Int) := by omega
    rw [decide_eq_false h4]
    try simp (disch := first | omega | (simp only [ints_length, List.length_replicate, List.length_set]; done) | (simp only [ints_length, List.length_replicate, List.length_set]; omega)) only [Sall,evalOp,init,binE,binI,unE,convE,okNil,builtE,gv,TD.isAgg,resV,↓reduceIte,Nat.reduceEqDiff,reduceCtorEq,Nat.reduceAdd,Nat.reduceMul,Nat.reduceLeDiff,quietOp,blindOp,Int.reduceEq,Int.reduceLT,Int.reduceLE,Nat.reduceLT,ti2,ti3,ti4,ti79,ti80,ti28,ti25,ti31,ti22,ti33,ti24,ti67,ti111,ti145,ti136,ti137,ti117,ti100, r0, r1, em, d1, decide_true, Bool.false_and, w64]
    exact up2
end Go.Proofs.Ytbmpkihggipciaa.A
end
