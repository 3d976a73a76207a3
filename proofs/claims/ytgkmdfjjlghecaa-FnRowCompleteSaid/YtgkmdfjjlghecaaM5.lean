/- Contracts: squares with each number once in a row and in a column, on both sides. And what follows. -/
import Derived.Test.YtgkmdfjjlghecaaM4
import Derived.Shelf.SlicesG.CompactI
import Derived.Sort.OwnSortedInts
import Derived.Lib.SlicesCompact
section
set_option linter.unusedSimpArgs false
set_option linter.unusedVariables false
set_option maxRecDepth 100000
set_option maxHeartbeats 2000000
namespace Go.Proofs.Ytgkmdfjjlghecaa.A
open Go Go.Abs Go.RowKit

theorem indexFuncLL_c (g : FuncId) (cap : List Value) (p : List Int → Bool) (x : Value) (ll : List (List Int)) (H : AH) (hx : Rd2 1 H x ll) (hl : ll.length ≤ 4294967296)
    (hp : ∀ (y : Value) (r : List Int), r ∈ ll → Rd 1 H y r.length r → ACalls Try.prog g (y :: cap) H (is (.bool (p r)) H)) :
    ACalls Try.prog 186 [x, .func (.func g) #[] cap.toArray] H (is (.int .i64 (firstI (fun i => p (ll.getD i [])) ll.length)) H) := by
  refine acalls_of_awp [.tmp 4] Try.func186 (by kernel_rfl) rfl rfl (Nat.le_of_ble_eq_true rfl) (by kernel_rfl) ?_
  try simp (disch := first | omega | (simp only [ints_length, List.length_replicate, List.length_set, colL_length]; done) | (simp only [ints_length, List.length_replicate, List.length_set, colL_length]; omega)) only [Sall,evalOp,init,binE,binI,unE,convE,okNil,builtE,gv,TD.isAgg,resV,↓reduceIte,Nat.reduceEqDiff,reduceCtorEq,Nat.reduceAdd,Nat.reduceMul,Nat.reduceLeDiff,quietOp,blindOp,Int.reduceEq,Int.reduceLT,Int.reduceLE,Nat.reduceLT,ti2,ti3,ti4,ti45,ti46,ti38,ti25,ti30,ti22,ti32,ti24,ti95,ti172,ti169,ti165,ti166,ti65,ti143,ti87, builtE, hx.len]
  refine awp_loop (fun m t H' => ∃ a : Nat, m = ll.length - a ∧ a ≤ ll.length ∧ t 8 = .int .i64 a ∧ t 7 = .int .i64 ll.length ∧ t 0 = x ∧ t 1 = .func (.func g) #[] cap.toArray ∧ H' = H ∧ (∀ i, i < a → p (ll.getD i []) = false)) ll.length ?_ ?_
  · refine ⟨0, by omega, by omega, ?_⟩
    try simp (disch := first | omega | (simp only [ints_length, List.length_replicate, List.length_set, colL_length]; done) | (simp only [ints_length, List.length_replicate, List.length_set, colL_length]; omega)) only [Sall,evalOp,init,binE,binI,unE,convE,okNil,builtE,gv,TD.isAgg,resV,↓reduceIte,Nat.reduceEqDiff,reduceCtorEq,Nat.reduceAdd,Nat.reduceMul,Nat.reduceLeDiff,quietOp,blindOp,Int.reduceEq,Int.reduceLT,Int.reduceLE,Nat.reduceLT,ti2,ti3,ti4,ti45,ti46,ti38,ti25,ti30,ti22,ti32,ti24,ti95,ti172,ti169,ti165,ti166,ti65,ti143,ti87, Int.natCast_zero, Nat.not_lt_zero, false_implies]
  · rintro m t H' ⟨a, hm, h14, h8, h7, h0, h1, rfl, hall⟩
    try simp (disch := first | omega | (simp only [ints_length, List.length_replicate, List.length_set, colL_length]; done) | (simp only [ints_length, List.length_replicate, List.length_set, colL_length]; omega)) only [Sall,evalOp,init,binE,binI,unE,convE,okNil,builtE,gv,TD.isAgg,resV,↓reduceIte,Nat.reduceEqDiff,reduceCtorEq,Nat.reduceAdd,Nat.reduceMul,Nat.reduceLeDiff,quietOp,blindOp,Int.reduceEq,Int.reduceLT,Int.reduceLE,Nat.reduceLT,ti2,ti3,ti4,ti45,ti46,ti38,ti25,ti30,ti22,ti32,ti24,ti95,ti172,ti169,ti165,ti166,ti65,ti143,ti87, h8, h7]
    refine condC_dec (fun h => ?_) (fun h => ?_)
    · obtain ⟨i, o, u, c, r, y, my, rfl, hr, hy, hsx, hok⟩ := hx.get (j := a) (by omega)
      have hmm := hsx.lenK1
      rw [hmm] at hsx
      try simp (disch := first | omega | (simp only [ints_length, List.length_replicate, List.length_set, colL_length]; done) | (simp only [ints_length, List.length_replicate, List.length_set, colL_length]; omega)) only [Sall,evalOp,init,binE,binI,unE,convE,okNil,builtE,gv,TD.isAgg,resV,↓reduceIte,Nat.reduceEqDiff,reduceCtorEq,Nat.reduceAdd,Nat.reduceMul,Nat.reduceLeDiff,quietOp,blindOp,Int.reduceEq,Int.reduceLT,Int.reduceLE,Nat.reduceLT,ti2,ti3,ti4,ti45,ti46,ti38,ti25,ti30,ti22,ti32,ti24,ti95,ti172,ti169,ti165,ti166,ti65,ti143,ti87, h8, h7, h0, h1, hr, hy, hok]
      (repeat refine And.intro (by omega) ?_)
      refine (hp y _ (getD_mem (ll := ll) (a := a) (by omega)) hsx).to ?_
      cases hb : p (ll.getD a []) with
      | true =>
        try simp (disch := first | omega | (simp only [ints_length, List.length_replicate, List.length_set, colL_length]; done) | (simp only [ints_length, List.length_replicate, List.length_set, colL_length]; omega)) only [Sall,evalOp,init,binE,binI,unE,convE,okNil,builtE,gv,TD.isAgg,resV,↓reduceIte,Nat.reduceEqDiff,reduceCtorEq,Nat.reduceAdd,Nat.reduceMul,Nat.reduceLeDiff,quietOp,blindOp,Int.reduceEq,Int.reduceLT,Int.reduceLE,Nat.reduceLT,ti2,ti3,ti4,ti45,ti46,ti38,ti25,ti30,ti22,ti32,ti24,ti95,ti172,ti169,ti165,ti166,ti65,ti143,ti87, h8, h7, h0, h1, is]
        rw [firstI_at (p := fun i => p (ll.getD i [])) (by omega) hb hall]
      | false =>
        try simp (disch := first | omega | (simp only [ints_length, List.length_replicate, List.length_set, colL_length]; done) | (simp only [ints_length, List.length_replicate, List.length_set, colL_length]; omega)) only [Sall,evalOp,init,binE,binI,unE,convE,okNil,builtE,gv,TD.isAgg,resV,↓reduceIte,Nat.reduceEqDiff,reduceCtorEq,Nat.reduceAdd,Nat.reduceMul,Nat.reduceLeDiff,quietOp,blindOp,Int.reduceEq,Int.reduceLT,Int.reduceLE,Nat.reduceLT,ti2,ti3,ti4,ti45,ti46,ti38,ti25,ti30,ti22,ti32,ti24,ti95,ti172,ti169,ti165,ti166,ti65,ti143,ti87, h8, h7, h0, h1, w64]
        refine ⟨ll.length - (a + 1), by omega, a + 1, rfl, by omega, by omega, fun x hx => ?_⟩
        by_cases e : x = a
        · rw [e]; exact hb
        · exact hall x (by omega)
    · try simp (disch := first | omega | (simp only [ints_length, List.length_replicate, List.length_set, colL_length]; done) | (simp only [ints_length, List.length_replicate, List.length_set, colL_length]; omega)) only [Sall,evalOp,init,binE,binI,unE,convE,okNil,builtE,gv,TD.isAgg,resV,↓reduceIte,Nat.reduceEqDiff,reduceCtorEq,Nat.reduceAdd,Nat.reduceMul,Nat.reduceLeDiff,quietOp,blindOp,Int.reduceEq,Int.reduceLT,Int.reduceLE,Nat.reduceLT,ti2,ti3,ti4,ti45,ti46,ti38,ti25,ti30,ti22,ti32,ti24,ti95,ti172,ti169,ti165,ti166,ti65,ti143,ti87, is]
      rw [firstI_none (p := fun i => p (ll.getD i [])) fun x hx => hall x (by omega)]

theorem containsFuncLL_c (g : FuncId) (cap : List Value) (p : List Int → Bool) (x : Value) (ll : List (List Int)) (H : AH) (hx : Rd2 1 H x ll) (hl : ll.length ≤ 4294967296)
    (hp : ∀ (y : Value) (r : List Int), r ∈ ll → Rd 1 H y r.length r → ACalls Try.prog g (y :: cap) H (is (.bool (p r)) H)) :
    ACalls Try.prog 124 [x, .func (.func g) #[] cap.toArray] H (is (.bool ((List.range ll.length).any fun i => p (ll.getD i []))) H) := by
  refine acalls_of_awp [.tmp 4] Try.func124 (by kernel_rfl) rfl rfl (Nat.le_of_ble_eq_true rfl) (by kernel_rfl) ?_
  try simp (disch := first | omega | (simp only [ints_length, List.length_replicate, List.length_set, colL_length]; done) | (simp only [ints_length, List.length_replicate, List.length_set, colL_length]; omega)) only [Sall,evalOp,init,binE,binI,unE,convE,okNil,builtE,gv,TD.isAgg,resV,↓reduceIte,Nat.reduceEqDiff,reduceCtorEq,Nat.reduceAdd,Nat.reduceMul,Nat.reduceLeDiff,quietOp,blindOp,Int.reduceEq,Int.reduceLT,Int.reduceLE,Nat.reduceLT,ti2,ti3,ti4,ti45,ti46,ti38,ti25,ti30,ti22,ti32,ti24,ti95,ti172,ti169,ti165,ti166,ti65,ti143,ti87, true_and]
  refine (indexFuncLL_c g cap p x ll H hx hl hp).to ?_
  try simp (disch := first | omega | (simp only [ints_length, List.length_replicate, List.length_set, colL_length]; done) | (simp only [ints_length, List.length_replicate, List.length_set, colL_length]; omega)) only [Sall,evalOp,init,binE,binI,unE,convE,okNil,builtE,gv,TD.isAgg,resV,↓reduceIte,Nat.reduceEqDiff,reduceCtorEq,Nat.reduceAdd,Nat.reduceMul,Nat.reduceLeDiff,quietOp,blindOp,Int.reduceEq,Int.reduceLT,Int.reduceLE,Nat.reduceLT,ti2,ti3,ti4,ti45,ti46,ti38,ti25,ti30,ti22,ti32,ti24,ti95,ti172,ti169,ti165,ti166,ti65,ti143,ti87, is, firstI_any]

theorem any_not_all (n : Nat) (p : Nat → Bool) : ((List.range n).any fun i => !p i) = !((List.range n).all p) := by
  rw [List.any_eq_not_all_not]
  simp

theorem haveSquare11_c (n : Int) (b : Nat) (x : Int) (H : AH) (hb : H.row b = some ⟨2, true, [.int .i64 n]⟩) (hn : 1 ≤ n ∧ n ≤ 14) :
    ACalls Try.prog 195 [.int .i64 x, .pointer (some ⟨b, 0, none⟩)] H (is (.bool (!decide (0 ≤ x ∧ x ≤ n - 1))) H) := by
  refine acalls_of_awp [.tmp 3] Try.func195 (by kernel_rfl) rfl rfl (Nat.le_of_ble_eq_true rfl) (by kernel_rfl) ?_
  try simp (disch := first | omega | (simp only [ints_length, List.length_replicate, List.length_set, colL_length]; done) | (simp only [ints_length, List.length_replicate, List.length_set, colL_length]; omega)) only [Sall,evalOp,init,binE,binI,unE,convE,okNil,builtE,gv,TD.isAgg,resV,↓reduceIte,Nat.reduceEqDiff,reduceCtorEq,Nat.reduceAdd,Nat.reduceMul,Nat.reduceLeDiff,quietOp,blindOp,Int.reduceEq,Int.reduceLT,Int.reduceLE,Nat.reduceLT,ti2,ti3,ti4,ti45,ti46,ti38,ti25,ti30,ti22,ti32,ti24,ti95,ti172,ti169,ti165,ti166,ti65,ti143,ti87, hb, w64]
  refine (between_c _ _ _ _).to ?_
  try simp (disch := first | omega | (simp only [ints_length, List.length_replicate, List.length_set, colL_length]; done) | (simp only [ints_length, List.length_replicate, List.length_set, colL_length]; omega)) only [Sall,evalOp,init,binE,binI,unE,convE,okNil,builtE,gv,TD.isAgg,resV,↓reduceIte,Nat.reduceEqDiff,reduceCtorEq,Nat.reduceAdd,Nat.reduceMul,Nat.reduceLeDiff,quietOp,blindOp,Int.reduceEq,Int.reduceLT,Int.reduceLE,Nat.reduceLT,ti2,ti3,ti4,ti45,ti46,ti38,ti25,ti30,ti22,ti32,ti24,ti95,ti172,ti169,ti165,ti166,ti65,ti143,ti87, is]

theorem haveSquare1_c (n : Nat) (b : Nat) (y : Value) (r : List Int) (H : AH) (hb : H.row b = some ⟨2, true, [.int .i64 n]⟩) (hn : 1 ≤ n ∧ n ≤ 14) (hv : Rd 1 H y r.length r) (hr : r.length ≤ 4294967296) :
    ACalls Try.prog 193 [y, .pointer (some ⟨b, 0, none⟩)] H (is (.bool (!rowOkB n r)) H) := by
  refine acalls_of_awp [.tmp 3] Try.func193 (by kernel_rfl) rfl rfl (Nat.le_of_ble_eq_true rfl) (by kernel_rfl) ?_
  have hn64 : (n : Int) < 9223372036854775808 := by omega
  try simp (disch := first | omega | (simp only [ints_length, List.length_replicate, List.length_set, colL_length]; done) | (simp only [ints_length, List.length_replicate, List.length_set, colL_length]; omega)) only [Sall,evalOp,init,binE,binI,unE,convE,okNil,builtE,gv,TD.isAgg,resV,↓reduceIte,Nat.reduceEqDiff,reduceCtorEq,Nat.reduceAdd,Nat.reduceMul,Nat.reduceLeDiff,quietOp,blindOp,Int.reduceEq,Int.reduceLT,Int.reduceLE,Nat.reduceLT,ti2,ti3,ti4,ti45,ti46,ti38,ti25,ti30,ti22,ti32,ti24,ti95,ti172,ti169,ti165,ti166,ti65,ti143,ti87, true_and]
  refine draw_in [0, 2, 1, 3, 4, 5, 6, 7, 8, 9] (by kernel_rfl) (by kernel_rfl) rfl ?_
  try simp (disch := first | omega | (simp only [ints_length, List.length_replicate, List.length_set, colL_length]; done) | (simp only [ints_length, List.length_replicate, List.length_set, colL_length]; omega)) only [Sall,evalOp,init,binE,binI,unE,convE,okNil,builtE,gv,TD.isAgg,resV,↓reduceIte,Nat.reduceEqDiff,reduceCtorEq,Nat.reduceAdd,Nat.reduceMul,Nat.reduceLeDiff,quietOp,blindOp,Int.reduceEq,Int.reduceLT,Int.reduceLE,Nat.reduceLT,ti2,ti3,ti4,ti45,ti46,ti38,ti25,ti30,ti22,ti32,ti24,ti95,ti172,ti169,ti165,ti166,ti65,ti143,ti87, hb]
  refine (size_c y r H hv hr).to ?_
  unfold rowOkB
  by_cases e : r.length = n
  · have e1 : ((r.length : Int) != (n : Int)) = false := by rw [e]; exact bne_self_eq_false _
    rw [decide_eq_true e, Bool.true_and]
    try simp (disch := first | omega | (simp only [ints_length, List.length_replicate, List.length_set, colL_length]; done) | (simp only [ints_length, List.length_replicate, List.length_set, colL_length]; omega)) only [Sall,evalOp,init,binE,binI,unE,convE,okNil,builtE,gv,TD.isAgg,resV,↓reduceIte,Nat.reduceEqDiff,reduceCtorEq,Nat.reduceAdd,Nat.reduceMul,Nat.reduceLeDiff,quietOp,blindOp,Int.reduceEq,Int.reduceLT,Int.reduceLE,Nat.reduceLT,ti2,ti3,ti4,ti45,ti46,ti38,ti25,ti30,ti22,ti32,ti24,ti95,ti172,ti169,ti165,ti166,ti65,ti143,ti87, e1, List.mem_cons, List.not_mem_nil, or_false, forall_eq_or_imp, forall_eq, Array.size_empty]
    refine ⟨.inr (.inr (LE.refl _)), (containsFuncI_c 195 [.pointer (some ⟨b, 0, none⟩)] (fun x => !decide (0 ≤ x ∧ x ≤ (n : Int) - 1)) y r.length r H hv hr (fun x => haveSquare11_c n b x H hb (by omega))).to ?_⟩
    rw [any_not_all r.length fun j => decide (0 ≤ r.getD j 0 ∧ r.getD j 0 ≤ (n : Int) - 1)]
    try simp (disch := first | omega | (simp only [ints_length, List.length_replicate, List.length_set, colL_length]; done) | (simp only [ints_length, List.length_replicate, List.length_set, colL_length]; omega)) only [Sall,evalOp,init,binE,binI,unE,convE,okNil,builtE,gv,TD.isAgg,resV,↓reduceIte,Nat.reduceEqDiff,reduceCtorEq,Nat.reduceAdd,Nat.reduceMul,Nat.reduceLeDiff,quietOp,blindOp,Int.reduceEq,Int.reduceLT,Int.reduceLE,Nat.reduceLT,ti2,ti3,ti4,ti45,ti46,ti38,ti25,ti30,ti22,ti32,ti24,ti95,ti172,ti169,ti165,ti166,ti65,ti143,ti87, is]
    exact .inr (.inr (LE.refl _))
  · have e1 : ((r.length : Int) != (n : Int)) = true := by rw [bne_iff_ne]; omega
    rw [decide_eq_false e, Bool.false_and]
    try simp (disch := first | omega | (simp only [ints_length, List.length_replicate, List.length_set, colL_length]; done) | (simp only [ints_length, List.length_replicate, List.length_set, colL_length]; omega)) only [Sall,evalOp,init,binE,binI,unE,convE,okNil,builtE,gv,TD.isAgg,resV,↓reduceIte,Nat.reduceEqDiff,reduceCtorEq,Nat.reduceAdd,Nat.reduceMul,Nat.reduceLeDiff,quietOp,blindOp,Int.reduceEq,Int.reduceLT,Int.reduceLE,Nat.reduceLT,ti2,ti3,ti4,ti45,ti46,ti38,ti25,ti30,ti22,ti32,ti24,ti95,ti172,ti169,ti165,ti166,ti65,ti143,ti87, e1, List.mem_cons, List.not_mem_nil, or_false, forall_eq_or_imp, forall_eq, Array.size_empty, is, Bool.not_false]
    exact .inr (.inr (LE.refl _))

theorem sizeLL_c (x : Value) (ll : List (List Int)) (H : AH) (hx : Rd2 1 H x ll) (hl : ll.length ≤ 4294967296) : ACalls Try.prog 121 [x] H (is (.int .i64 ll.length) H) := by
  refine acalls_of_awp [.tmp 2] Try.func121 (by kernel_rfl) rfl rfl (Nat.le_of_ble_eq_true rfl) (by kernel_rfl) ?_
  try simp (disch := first | omega | (simp only [ints_length, List.length_replicate, List.length_set, colL_length]; done) | (simp only [ints_length, List.length_replicate, List.length_set, colL_length]; omega)) only [Sall,evalOp,init,binE,binI,unE,convE,okNil,builtE,gv,TD.isAgg,resV,↓reduceIte,Nat.reduceEqDiff,reduceCtorEq,Nat.reduceAdd,Nat.reduceMul,Nat.reduceLeDiff,quietOp,blindOp,Int.reduceEq,Int.reduceLT,Int.reduceLE,Nat.reduceLT,ti2,ti3,ti4,ti45,ti46,ti38,ti25,ti30,ti22,ti32,ti24,ti95,ti172,ti169,ti165,ti166,ti65,ti143,ti87, builtE, hx.len, is]

theorem haveSquare_c (n : Int) (x : Value) (ll : List (List Int)) (H : AH) (hx : Rd2 1 H x ll) (hl : ll.length ≤ 4294967296) (hl2 : ∀ r ∈ ll, r.length ≤ 4294967296) :
    ACalls Try.prog 134 [.int .i64 n, x] H (is (.bool (haveB n ll)) H) := by
  refine acalls_up rfl (ACalls.wf (by kernel_rfl) fun hs => acalls_of_awp [.tmp 4] Try.func134 (by kernel_rfl) rfl rfl (Nat.le_of_ble_eq_true rfl) (by kernel_rfl) ?_)
  try simp (disch := first | omega | (simp only [ints_length, List.length_replicate, List.length_set, colL_length]; done) | (simp only [ints_length, List.length_replicate, List.length_set, colL_length]; omega)) only [Sall,evalOp,init,binE,binI,unE,convE,okNil,builtE,gv,TD.isAgg,resV,↓reduceIte,Nat.reduceEqDiff,reduceCtorEq,Nat.reduceAdd,Nat.reduceMul,Nat.reduceLeDiff,quietOp,blindOp,Int.reduceEq,Int.reduceLT,Int.reduceLE,Nat.reduceLT,ti2,ti3,ti4,ti45,ti46,ti38,ti25,ti30,ti22,ti32,ti24,ti95,ti172,ti169,ti165,ti166,ti65,ti143,ti87, true_and]
  have up : Up H.next H (H.push ⟨2, true, [.int .i64 n]⟩) := (Up.refl _ H).push (Nat.le_refl _) _
  have e1 : (H.push ⟨2, true, [.int .i64 n]⟩).row H.next = some ⟨2, true, [.int .i64 n]⟩ := by rw [AH.push_row, if_pos rfl]
  revert up e1
  generalize H.push ⟨2, true, [.int .i64 n]⟩ = H1
  intro up e1
  have hx1 := hx.same (up.le hs).row
  refine draw_in [0, 1, 2, 3, 5, 4, 6, 7, 8, 9, 10, 11, 12, 13, 14] (by kernel_rfl) (by kernel_rfl) rfl ?_
  try simp (disch := first | omega | (simp only [ints_length, List.length_replicate, List.length_set, colL_length]; done) | (simp only [ints_length, List.length_replicate, List.length_set, colL_length]; omega)) only [Sall,evalOp,init,binE,binI,unE,convE,okNil,builtE,gv,TD.isAgg,resV,↓reduceIte,Nat.reduceEqDiff,reduceCtorEq,Nat.reduceAdd,Nat.reduceMul,Nat.reduceLeDiff,quietOp,blindOp,Int.reduceEq,Int.reduceLT,Int.reduceLE,Nat.reduceLT,ti2,ti3,ti4,ti45,ti46,ti38,ti25,ti30,ti22,ti32,ti24,ti95,ti172,ti169,ti165,ti166,ti65,ti143,ti87, e1]
  refine (between_c _ _ _ _).to ?_
  unfold haveB
  by_cases h1 : 1 ≤ n ∧ n ≤ 14
  · obtain ⟨m, rfl⟩ : ∃ m : Nat, n = m := ⟨n.toNat, by omega⟩
    rw [decide_eq_true h1, Bool.true_and, Int.toNat_natCast]
    try simp (disch := first | omega | (simp only [ints_length, List.length_replicate, List.length_set, colL_length]; done) | (simp only [ints_length, List.length_replicate, List.length_set, colL_length]; omega)) only [Sall,evalOp,init,binE,binI,unE,convE,okNil,builtE,gv,TD.isAgg,resV,↓reduceIte,Nat.reduceEqDiff,reduceCtorEq,Nat.reduceAdd,Nat.reduceMul,Nat.reduceLeDiff,quietOp,blindOp,Int.reduceEq,Int.reduceLT,Int.reduceLE,Nat.reduceLT,ti2,ti3,ti4,ti45,ti46,ti38,ti25,ti30,ti22,ti32,ti24,ti95,ti172,ti169,ti165,ti166,ti65,ti143,ti87, e1]
    refine ⟨.inr (.inr (LE.refl _)), (sizeLL_c x ll H1 hx1 hl).to ?_⟩
    by_cases h2 : ll.length = m
    · have e2 : ((ll.length : Int) == (m : Int)) = true := by rw [h2]; exact beq_self_eq_true _
      rw [decide_eq_true h2, Bool.true_and]
      try simp (disch := first | omega | (simp only [ints_length, List.length_replicate, List.length_set, colL_length]; done) | (simp only [ints_length, List.length_replicate, List.length_set, colL_length]; omega)) only [Sall,evalOp,init,binE,binI,unE,convE,okNil,builtE,gv,TD.isAgg,resV,↓reduceIte,Nat.reduceEqDiff,reduceCtorEq,Nat.reduceAdd,Nat.reduceMul,Nat.reduceLeDiff,quietOp,blindOp,Int.reduceEq,Int.reduceLT,Int.reduceLE,Nat.reduceLT,ti2,ti3,ti4,ti45,ti46,ti38,ti25,ti30,ti22,ti32,ti24,ti95,ti172,ti169,ti165,ti166,ti65,ti143,ti87, e1, e2, List.mem_cons, List.not_mem_nil, or_false, forall_eq_or_imp, forall_eq, Array.size_empty]
      refine ⟨.inr (.inr (LE.refl _)), (containsFuncLL_c 193 [.pointer (some ⟨H.next, 0, none⟩)] (fun r => !rowOkB m r) x ll H1 hx1 hl (fun y r hr hy => haveSquare1_c m H.next y r H1 e1 (by omega) hy (hl2 r hr))).to ?_⟩
      rw [any_not_all ll.length fun i => rowOkB m (ll.getD i [])]
      try simp (disch := first | omega | (simp only [ints_length, List.length_replicate, List.length_set, colL_length]; done) | (simp only [ints_length, List.length_replicate, List.length_set, colL_length]; omega)) only [Sall,evalOp,init,binE,binI,unE,convE,okNil,builtE,gv,TD.isAgg,resV,↓reduceIte,Nat.reduceEqDiff,reduceCtorEq,Nat.reduceAdd,Nat.reduceMul,Nat.reduceLeDiff,quietOp,blindOp,Int.reduceEq,Int.reduceLT,Int.reduceLE,Nat.reduceLT,ti2,ti3,ti4,ti45,ti46,ti38,ti25,ti30,ti22,ti32,ti24,ti95,ti172,ti169,ti165,ti166,ti65,ti143,ti87, Bool.not_not]
      exact ⟨.inr (.inr (LE.refl _)), up⟩
    · have e2 : ((ll.length : Int) == (m : Int)) = false := by rw [beq_eq_false_iff_ne]; omega
      rw [decide_eq_false h2, Bool.false_and]
      try simp (disch := first | omega | (simp only [ints_length, List.length_replicate, List.length_set, colL_length]; done) | (simp only [ints_length, List.length_replicate, List.length_set, colL_length]; omega)) only [Sall,evalOp,init,binE,binI,unE,convE,okNil,builtE,gv,TD.isAgg,resV,↓reduceIte,Nat.reduceEqDiff,reduceCtorEq,Nat.reduceAdd,Nat.reduceMul,Nat.reduceLeDiff,quietOp,blindOp,Int.reduceEq,Int.reduceLT,Int.reduceLE,Nat.reduceLT,ti2,ti3,ti4,ti45,ti46,ti38,ti25,ti30,ti22,ti32,ti24,ti95,ti172,ti169,ti165,ti166,ti65,ti143,ti87, e1, e2, List.mem_cons, List.not_mem_nil, or_false, forall_eq_or_imp, forall_eq, Array.size_empty]
      exact ⟨.inr (.inr (LE.refl _)), up⟩
  · rw [decide_eq_false h1, Bool.false_and]
    try simp (disch := first | omega | (simp only [ints_length, List.length_replicate, List.length_set, colL_length]; done) | (simp only [ints_length, List.length_replicate, List.length_set, colL_length]; omega)) only [Sall,evalOp,init,binE,binI,unE,convE,okNil,builtE,gv,TD.isAgg,resV,↓reduceIte,Nat.reduceEqDiff,reduceCtorEq,Nat.reduceAdd,Nat.reduceMul,Nat.reduceLeDiff,quietOp,blindOp,Int.reduceEq,Int.reduceLT,Int.reduceLE,Nat.reduceLT,ti2,ti3,ti4,ti45,ti46,ti38,ti25,ti30,ti22,ti32,ti24,ti95,ti172,ti169,ti165,ti166,ti65,ti143,ti87, e1, List.mem_cons, List.not_mem_nil, or_false, forall_eq_or_imp, forall_eq, Array.size_empty]
    exact ⟨.inr (.inr (LE.refl _)), up⟩

theorem l09Rows_c (n : Int) (x : Value) (ll : List (List Int)) (H : AH) (hx : Rd2 1 H x ll) (hl : ll.length ≤ 4294967296) (hl2 : ∀ r ∈ ll, r.length ≤ 4294967296) :
    ACalls Try.prog 140 [.int .i64 n, x] H (is (.int .i64 (sqoC n ll)) H) := by
  refine acalls_of_awp [.tmp 4] Try.func140 (by kernel_rfl) rfl rfl (Nat.le_of_ble_eq_true rfl) (by kernel_rfl) ?_
  try simp (disch := first | omega | (simp only [ints_length, List.length_replicate, List.length_set, colL_length]; done) | (simp only [ints_length, List.length_replicate, List.length_set, colL_length]; omega)) only [Sall,evalOp,init,binE,binI,unE,convE,okNil,builtE,gv,TD.isAgg,resV,↓reduceIte,Nat.reduceEqDiff,reduceCtorEq,Nat.reduceAdd,Nat.reduceMul,Nat.reduceLeDiff,quietOp,blindOp,Int.reduceEq,Int.reduceLT,Int.reduceLE,Nat.reduceLT,ti2,ti3,ti4,ti45,ti46,ti38,ti25,ti30,ti22,ti32,ti24,ti95,ti172,ti169,ti165,ti166,ti65,ti143,ti87, true_and]
  refine (l01In_c _ _ _ _).to ?_
  unfold sqoC haveB
  by_cases h1 : 1 ≤ n ∧ n ≤ 14
  · obtain ⟨m, rfl⟩ : ∃ m : Nat, n = m := ⟨n.toNat, by omega⟩
    rw [decide_eq_true h1, Bool.true_and, Int.toNat_natCast]
    by_cases h2 : ll.length = m
    · have e2 : ((ll.length : Int) != (m : Int)) = false := by rw [h2]; exact bne_self_eq_false _
      rw [decide_eq_true h2, Bool.true_and]
      try simp (disch := first | omega | (simp only [ints_length, List.length_replicate, List.length_set, colL_length]; done) | (simp only [ints_length, List.length_replicate, List.length_set, colL_length]; omega)) only [Sall,evalOp,init,binE,binI,unE,convE,okNil,builtE,gv,TD.isAgg,resV,↓reduceIte,Nat.reduceEqDiff,reduceCtorEq,Nat.reduceAdd,Nat.reduceMul,Nat.reduceLeDiff,quietOp,blindOp,Int.reduceEq,Int.reduceLT,Int.reduceLE,Nat.reduceLT,ti2,ti3,ti4,ti45,ti46,ti38,ti25,ti30,ti22,ti32,ti24,ti95,ti172,ti169,ti165,ti166,ti65,ti143,ti87, Bool.not_true, builtE, hx.len, e2]
      refine awp_loop (fun z t H' => ∃ a : Nat, z = ll.length - a ∧ a ≤ ll.length ∧ t 5 = .int .i64 a ∧ t 0 = .int .i64 m ∧ t 1 = x ∧ H' = H ∧ (∀ i, i < a → rowOkB m (ll.getD i []) = true)) ll.length ?_ ?_
      · refine ⟨0, by omega, by omega, ?_⟩
        try simp (disch := first | omega | (simp only [ints_length, List.length_replicate, List.length_set, colL_length]; done) | (simp only [ints_length, List.length_replicate, List.length_set, colL_length]; omega)) only [Sall,evalOp,init,binE,binI,unE,convE,okNil,builtE,gv,TD.isAgg,resV,↓reduceIte,Nat.reduceEqDiff,reduceCtorEq,Nat.reduceAdd,Nat.reduceMul,Nat.reduceLeDiff,quietOp,blindOp,Int.reduceEq,Int.reduceLT,Int.reduceLE,Nat.reduceLT,ti2,ti3,ti4,ti45,ti46,ti38,ti25,ti30,ti22,ti32,ti24,ti95,ti172,ti169,ti165,ti166,ti65,ti143,ti87, Int.natCast_zero, Nat.not_lt_zero, false_implies]
      · rintro z t H' ⟨a, hz, ha, h5, h0, h1', rfl, hall⟩
        try simp (disch := first | omega | (simp only [ints_length, List.length_replicate, List.length_set, colL_length]; done) | (simp only [ints_length, List.length_replicate, List.length_set, colL_length]; omega)) only [Sall,evalOp,init,binE,binI,unE,convE,okNil,builtE,gv,TD.isAgg,resV,↓reduceIte,Nat.reduceEqDiff,reduceCtorEq,Nat.reduceAdd,Nat.reduceMul,Nat.reduceLeDiff,quietOp,blindOp,Int.reduceEq,Int.reduceLT,Int.reduceLE,Nat.reduceLT,ti2,ti3,ti4,ti45,ti46,ti38,ti25,ti30,ti22,ti32,ti24,ti95,ti172,ti169,ti165,ti166,ti65,ti143,ti87, h5, h1', builtE, hx.len]
        refine condC_dec (fun h => ?_) (fun h => ?_)
        · obtain ⟨i, o, u, c, r, y, my, rfl, hr, hy, hsx, hok⟩ := hx.get (j := a) (by omega)
          have hmm := hsx.lenK1
          have hml := hl2 _ (getD_mem (ll := ll) (a := a) (by omega))
          rw [hmm] at hsx
          by_cases h3 : (ll.getD a []).length = m
          · have e3 : (((ll.getD a []).length : Int) != (m : Int)) = false := by rw [h3]; exact bne_self_eq_false _
            try simp (disch := first | omega | (simp only [ints_length, List.length_replicate, List.length_set, colL_length]; done) | (simp only [ints_length, List.length_replicate, List.length_set, colL_length]; omega)) only [Sall,evalOp,init,binE,binI,unE,convE,okNil,builtE,gv,TD.isAgg,resV,↓reduceIte,Nat.reduceEqDiff,reduceCtorEq,Nat.reduceAdd,Nat.reduceMul,Nat.reduceLeDiff,quietOp,blindOp,Int.reduceEq,Int.reduceLT,Int.reduceLE,Nat.reduceLT,ti2,ti3,ti4,ti45,ti46,ti38,ti25,ti30,ti22,ti32,ti24,ti95,ti172,ti169,ti165,ti166,ti65,ti143,ti87, h5, h0, h1', hr, hy, hok, builtE, hsx.len, e3]
            (repeat refine And.intro (by omega) ?_)
            refine awp_loop (fun z t H2 => ∃ b : Nat, z = (ll.getD a []).length - b ∧ b ≤ (ll.getD a []).length ∧ t 6 = .int .i64 b ∧ t 5 = .int .i64 a ∧ t 0 = .int .i64 m ∧ t 1 = .slice (some ⟨i, o, u⟩) ll.length c ∧ H2 = H' ∧ (∀ j, j < b → (0 ≤ (ll.getD a []).getD j 0 ∧ (ll.getD a []).getD j 0 ≤ (m : Int) - 1))) (ll.getD a []).length ?_ ?_
            · refine ⟨0, by omega, by omega, ?_⟩
              try simp (disch := first | omega | (simp only [ints_length, List.length_replicate, List.length_set, colL_length]; done) | (simp only [ints_length, List.length_replicate, List.length_set, colL_length]; omega)) only [Sall,evalOp,init,binE,binI,unE,convE,okNil,builtE,gv,TD.isAgg,resV,↓reduceIte,Nat.reduceEqDiff,reduceCtorEq,Nat.reduceAdd,Nat.reduceMul,Nat.reduceLeDiff,quietOp,blindOp,Int.reduceEq,Int.reduceLT,Int.reduceLE,Nat.reduceLT,ti2,ti3,ti4,ti45,ti46,ti38,ti25,ti30,ti22,ti32,ti24,ti95,ti172,ti169,ti165,ti166,ti65,ti143,ti87, Int.natCast_zero, Nat.not_lt_zero, false_implies, h5, h0, h1']
            · rintro z t H4 ⟨b, hz, hb, h6, h5, h0, h1', rfl, hin⟩
              try simp (disch := first | omega | (simp only [ints_length, List.length_replicate, List.length_set, colL_length]; done) | (simp only [ints_length, List.length_replicate, List.length_set, colL_length]; omega)) only [Sall,evalOp,init,binE,binI,unE,convE,okNil,builtE,gv,TD.isAgg,resV,↓reduceIte,Nat.reduceEqDiff,reduceCtorEq,Nat.reduceAdd,Nat.reduceMul,Nat.reduceLeDiff,quietOp,blindOp,Int.reduceEq,Int.reduceLT,Int.reduceLE,Nat.reduceLT,ti2,ti3,ti4,ti45,ti46,ti38,ti25,ti30,ti22,ti32,ti24,ti95,ti172,ti169,ti165,ti166,ti65,ti143,ti87, h6, h5, h1', hr, hy, hok, builtE, hsx.len]
              (repeat refine And.intro (by omega) ?_)
              refine condC_dec (fun hh => ?_) (fun hh => ?_)
              · obtain ⟨i7, o7, u7, c7, r7, rfl, hr7, hc7, hs7, hg7⟩ := hsx.get (by omega)
                have g1 := hs7 b (by omega)
                try simp (disch := first | omega | (simp only [ints_length, List.length_replicate, List.length_set, colL_length]; done) | (simp only [ints_length, List.length_replicate, List.length_set, colL_length]; omega)) only [Sall,evalOp,init,binE,binI,unE,convE,okNil,builtE,gv,TD.isAgg,resV,↓reduceIte,Nat.reduceEqDiff,reduceCtorEq,Nat.reduceAdd,Nat.reduceMul,Nat.reduceLeDiff,quietOp,blindOp,Int.reduceEq,Int.reduceLT,Int.reduceLE,Nat.reduceLT,ti2,ti3,ti4,ti45,ti46,ti38,ti25,ti30,ti22,ti32,ti24,ti95,ti172,ti169,ti165,ti166,ti65,ti143,ti87, h6, h5, h0, h1', hr, hy, hok, hr7, g1, w64]
                (repeat refine And.intro (by omega) ?_)
                refine (l01In_c _ _ _ _).to ?_
                by_cases hin2 : 0 ≤ (ll.getD a []).getD b 0 ∧ (ll.getD a []).getD b 0 ≤ (m : Int) - 1
                · rw [decide_eq_true hin2]
                  try simp (disch := first | omega | (simp only [ints_length, List.length_replicate, List.length_set, colL_length]; done) | (simp only [ints_length, List.length_replicate, List.length_set, colL_length]; omega)) only [Sall,evalOp,init,binE,binI,unE,convE,okNil,builtE,gv,TD.isAgg,resV,↓reduceIte,Nat.reduceEqDiff,reduceCtorEq,Nat.reduceAdd,Nat.reduceMul,Nat.reduceLeDiff,quietOp,blindOp,Int.reduceEq,Int.reduceLT,Int.reduceLE,Nat.reduceLT,ti2,ti3,ti4,ti45,ti46,ti38,ti25,ti30,ti22,ti32,ti24,ti95,ti172,ti169,ti165,ti166,ti65,ti143,ti87, Bool.not_true, h6, h5, h0, h1', w64]
                  refine ⟨(ll.getD a []).length - (b + 1), by omega, b + 1, rfl, by omega, rfl, fun j hj => ?_⟩
                  by_cases e : j = b
                  · rw [e]; exact hin2
                  · exact hin j (by omega)
                · rw [decide_eq_false hin2]
                  try simp (disch := first | omega | (simp only [ints_length, List.length_replicate, List.length_set, colL_length]; done) | (simp only [ints_length, List.length_replicate, List.length_set, colL_length]; omega)) only [Sall,evalOp,init,binE,binI,unE,convE,okNil,builtE,gv,TD.isAgg,resV,↓reduceIte,Nat.reduceEqDiff,reduceCtorEq,Nat.reduceAdd,Nat.reduceMul,Nat.reduceLeDiff,quietOp,blindOp,Int.reduceEq,Int.reduceLT,Int.reduceLE,Nat.reduceLT,ti2,ti3,ti4,ti45,ti46,ti38,ti25,ti30,ti22,ti32,ti24,ti95,ti172,ti169,ti165,ti166,ti65,ti143,ti87, Bool.not_false, is]
                  rw [all_false_of (i := a) (by omega) (by unfold rowOkB; rw [all_false_of (i := b) (by omega) (decide_eq_false hin2), Bool.and_false])]
                  simp
              · try simp (disch := first | omega | (simp only [ints_length, List.length_replicate, List.length_set, colL_length]; done) | (simp only [ints_length, List.length_replicate, List.length_set, colL_length]; omega)) only [Sall,evalOp,init,binE,binI,unE,convE,okNil,builtE,gv,TD.isAgg,resV,↓reduceIte,Nat.reduceEqDiff,reduceCtorEq,Nat.reduceAdd,Nat.reduceMul,Nat.reduceLeDiff,quietOp,blindOp,Int.reduceEq,Int.reduceLT,Int.reduceLE,Nat.reduceLT,ti2,ti3,ti4,ti45,ti46,ti38,ti25,ti30,ti22,ti32,ti24,ti95,ti172,ti169,ti165,ti166,ti65,ti143,ti87, h5, h0, h1', w64]
                refine ⟨ll.length - (a + 1), by omega, a + 1, rfl, by omega, rfl, fun j hj => ?_⟩
                by_cases e : j = a
                · rw [e]; unfold rowOkB
                  rw [decide_eq_true h3, Bool.true_and, all_true_of]
                  intro q hq
                  exact decide_eq_true (hin q (by omega))
                · exact hall j (by omega)
          · have e3 : (((ll.getD a []).length : Int) != (m : Int)) = true := by rw [bne_iff_ne]; omega
            try simp (disch := first | omega | (simp only [ints_length, List.length_replicate, List.length_set, colL_length]; done) | (simp only [ints_length, List.length_replicate, List.length_set, colL_length]; omega)) only [Sall,evalOp,init,binE,binI,unE,convE,okNil,builtE,gv,TD.isAgg,resV,↓reduceIte,Nat.reduceEqDiff,reduceCtorEq,Nat.reduceAdd,Nat.reduceMul,Nat.reduceLeDiff,quietOp,blindOp,Int.reduceEq,Int.reduceLT,Int.reduceLE,Nat.reduceLT,ti2,ti3,ti4,ti45,ti46,ti38,ti25,ti30,ti22,ti32,ti24,ti95,ti172,ti169,ti165,ti166,ti65,ti143,ti87, h5, h0, h1', hr, hy, hok, builtE, hsx.len, e3, is]
            (repeat refine And.intro (by omega) ?_)
            rw [all_false_of (i := a) (by omega) (by unfold rowOkB; rw [decide_eq_false h3, Bool.false_and])]
            simp
        · try simp (disch := first | omega | (simp only [ints_length, List.length_replicate, List.length_set, colL_length]; done) | (simp only [ints_length, List.length_replicate, List.length_set, colL_length]; omega)) only [Sall,evalOp,init,binE,binI,unE,convE,okNil,builtE,gv,TD.isAgg,resV,↓reduceIte,Nat.reduceEqDiff,reduceCtorEq,Nat.reduceAdd,Nat.reduceMul,Nat.reduceLeDiff,quietOp,blindOp,Int.reduceEq,Int.reduceLT,Int.reduceLE,Nat.reduceLT,ti2,ti3,ti4,ti45,ti46,ti38,ti25,ti30,ti22,ti32,ti24,ti95,ti172,ti169,ti165,ti166,ti65,ti143,ti87, is]
          rw [all_true_of fun i hi => hall i (by omega)]
          simp
    · have e2 : ((ll.length : Int) != (m : Int)) = true := by rw [bne_iff_ne]; omega
      rw [decide_eq_false h2, Bool.false_and]
      try simp (disch := first | omega | (simp only [ints_length, List.length_replicate, List.length_set, colL_length]; done) | (simp only [ints_length, List.length_replicate, List.length_set, colL_length]; omega)) only [Sall,evalOp,init,binE,binI,unE,convE,okNil,builtE,gv,TD.isAgg,resV,↓reduceIte,Nat.reduceEqDiff,reduceCtorEq,Nat.reduceAdd,Nat.reduceMul,Nat.reduceLeDiff,quietOp,blindOp,Int.reduceEq,Int.reduceLT,Int.reduceLE,Nat.reduceLT,ti2,ti3,ti4,ti45,ti46,ti38,ti25,ti30,ti22,ti32,ti24,ti95,ti172,ti169,ti165,ti166,ti65,ti143,ti87, Bool.not_true, builtE, hx.len, e2, is]
  · rw [decide_eq_false h1, Bool.false_and]
    try simp (disch := first | omega | (simp only [ints_length, List.length_replicate, List.length_set, colL_length]; done) | (simp only [ints_length, List.length_replicate, List.length_set, colL_length]; omega)) only [Sall,evalOp,init,binE,binI,unE,convE,okNil,builtE,gv,TD.isAgg,resV,↓reduceIte,Nat.reduceEqDiff,reduceCtorEq,Nat.reduceAdd,Nat.reduceMul,Nat.reduceLeDiff,quietOp,blindOp,Int.reduceEq,Int.reduceLT,Int.reduceLE,Nat.reduceLT,ti2,ti3,ti4,ti45,ti46,ti38,ti25,ti30,ti22,ti32,ti24,ti95,ti172,ti169,ti165,ti166,ti65,ti143,ti87, Bool.not_false, is]
theorem isLatin_c (m : Nat) (x : Value) (ll : List (List Int)) (H : AH) (hx : Rd2 1 H x ll) (hl : ll.length = m) (hm : m ≤ 14) (hin : ∀ i, i < m → (ll.getD i []).length = m ∧ ∀ j, j < m → 0 ≤ (ll.getD i []).getD j 0 ∧ (ll.getD i []).getD j 0 < m) :
    ACalls Try.prog 135 [.int .i64 m, x] H (is (.bool (latB m ll)) H) := by
  refine acalls_up rfl (ACalls.wf (by kernel_rfl) fun hs => acalls_of_awp [.tmp 4] Try.func135 (by kernel_rfl) rfl rfl (Nat.le_of_ble_eq_true rfl) (by kernel_rfl) ?_)
  try simp (disch := first | omega | (simp only [ints_length, List.length_replicate, List.length_set, colL_length]; done) | (simp only [ints_length, List.length_replicate, List.length_set, colL_length]; omega)) only [Sall,evalOp,init,binE,binI,unE,convE,okNil,builtE,gv,TD.isAgg,resV,↓reduceIte,Nat.reduceEqDiff,reduceCtorEq,Nat.reduceAdd,Nat.reduceMul,Nat.reduceLeDiff,quietOp,blindOp,Int.reduceEq,Int.reduceLT,Int.reduceLE,Nat.reduceLT,ti2,ti3,ti4,ti45,ti46,ti38,ti25,ti30,ti22,ti32,ti24,ti95,ti172,ti169,ti165,ti166,ti65,ti143,ti87, true_and]
  refine awp_loop (fun z t H' => ∃ a : Nat, z = m - a ∧ a ≤ m ∧ t 10 = .int .i64 a ∧ t 9 = .int .i64 m ∧ t 0 = .int .i64 m ∧ t 1 = x ∧ Up H.next H H' ∧ (∀ i, i < a → latAt m ll i = true)) m ?_ ?_
  · refine ⟨0, by omega, by omega, ?_⟩
    try simp (disch := first | omega | (simp only [ints_length, List.length_replicate, List.length_set, colL_length]; done) | (simp only [ints_length, List.length_replicate, List.length_set, colL_length]; omega)) only [Sall,evalOp,init,binE,binI,unE,convE,okNil,builtE,gv,TD.isAgg,resV,↓reduceIte,Nat.reduceEqDiff,reduceCtorEq,Nat.reduceAdd,Nat.reduceMul,Nat.reduceLeDiff,quietOp,blindOp,Int.reduceEq,Int.reduceLT,Int.reduceLE,Nat.reduceLT,ti2,ti3,ti4,ti45,ti46,ti38,ti25,ti30,ti22,ti32,ti24,ti95,ti172,ti169,ti165,ti166,ti65,ti143,ti87, Int.natCast_zero, Nat.not_lt_zero, false_implies]
    exact Up.refl _ _
  · rintro z t H' ⟨a, hz, ha, h10, h9, h0, h1, hup, hall⟩
    have hup1 := hup.next
    try simp (disch := first | omega | (simp only [ints_length, List.length_replicate, List.length_set, colL_length]; done) | (simp only [ints_length, List.length_replicate, List.length_set, colL_length]; omega)) only [Sall,evalOp,init,binE,binI,unE,convE,okNil,builtE,gv,TD.isAgg,resV,↓reduceIte,Nat.reduceEqDiff,reduceCtorEq,Nat.reduceAdd,Nat.reduceMul,Nat.reduceLeDiff,quietOp,blindOp,Int.reduceEq,Int.reduceLT,Int.reduceLE,Nat.reduceLT,ti2,ti3,ti4,ti45,ti46,ti38,ti25,ti30,ti22,ti32,ti24,ti95,ti172,ti169,ti165,ti166,ti65,ti143,ti87, h10, h9]
    refine condC_dec (fun h => ?_) (fun h => ?_)
    · have hx' := hx.same (hup.le hs).row
      try simp (disch := first | omega | (simp only [ints_length, List.length_replicate, List.length_set, colL_length]; done) | (simp only [ints_length, List.length_replicate, List.length_set, colL_length]; omega)) only [Sall,evalOp,init,binE,binI,unE,convE,okNil,builtE,gv,TD.isAgg,resV,↓reduceIte,Nat.reduceEqDiff,reduceCtorEq,Nat.reduceAdd,Nat.reduceMul,Nat.reduceLeDiff,quietOp,blindOp,Int.reduceEq,Int.reduceLT,Int.reduceLE,Nat.reduceLT,ti2,ti3,ti4,ti45,ti46,ti38,ti25,ti30,ti22,ti32,ti24,ti95,ti172,ti169,ti165,ti166,ti65,ti143,ti87, h10, h9, h0, h1, builtE, hx'.len, zeros_zero]
      refine awp_loop (fun z t H2 => ∃ (b : Nat) (w : Value) (lo hi : Nat), z = m - b ∧ b ≤ m ∧ t 16 = .int .i64 b ∧ t 15 = .int .i64 m ∧ t 14 = x ∧ t 6 = w ∧ t 5 = .int .i64 a ∧ t 10 = .int .i64 a ∧ t 9 = .int .i64 m ∧ t 0 = .int .i64 m ∧ t 1 = x ∧ Up H'.next H' H2 ∧ H'.next ≤ lo ∧ lo ≤ hi ∧ hi ≤ H2.next ∧ Fr 1 2 lo hi H2 w b (colL ll a b)) m ?_ ?_
      · refine ⟨0, .slice (some ⟨H'.next, 0, some 1⟩) 0 0, H'.next, H'.next + 1, by omega, by omega, ?_⟩
        try simp (disch := first | omega | (simp only [ints_length, List.length_replicate, List.length_set, colL_length]; done) | (simp only [ints_length, List.length_replicate, List.length_set, colL_length]; omega)) only [Sall,evalOp,init,binE,binI,unE,convE,okNil,builtE,gv,TD.isAgg,resV,↓reduceIte,Nat.reduceEqDiff,reduceCtorEq,Nat.reduceAdd,Nat.reduceMul,Nat.reduceLeDiff,quietOp,blindOp,Int.reduceEq,Int.reduceLT,Int.reduceLE,Nat.reduceLT,ti2,ti3,ti4,ti45,ti46,ti38,ti25,ti30,ti22,ti32,ti24,ti95,ti172,ti169,ti165,ti166,ti65,ti143,ti87, Int.natCast_zero, h10, h9, h0, h1, hl]
        refine ⟨(Up.refl _ H').push (by omega) _, ?_⟩
        (repeat refine And.intro (by omega) ?_)
        exact ⟨by simp [colL], .inr ⟨H'.next, Nat.le_refl _, Nat.lt_succ_self _, rfl, by rw [AH.push_row, if_pos rfl]; rfl⟩⟩
      · rintro z t H2 ⟨b, w, lo, hi, hz, hb, h16, h15, h14, h6, h5, h10, h9, h0, h1, hup2, hlo, hlh, hhi, hw⟩
        have hup21 := hup2.next
        have hU2 : Up H.next H H2 := hup.trans hup2 (by omega)
        have hx2 := hx.same (hU2.le hs).row
        try simp (disch := first | omega | (simp only [ints_length, List.length_replicate, List.length_set, colL_length]; done) | (simp only [ints_length, List.length_replicate, List.length_set, colL_length]; omega)) only [Sall,evalOp,init,binE,binI,unE,convE,okNil,builtE,gv,TD.isAgg,resV,↓reduceIte,Nat.reduceEqDiff,reduceCtorEq,Nat.reduceAdd,Nat.reduceMul,Nat.reduceLeDiff,quietOp,blindOp,Int.reduceEq,Int.reduceLT,Int.reduceLE,Nat.reduceLT,ti2,ti3,ti4,ti45,ti46,ti38,ti25,ti30,ti22,ti32,ti24,ti95,ti172,ti169,ti165,ti166,ti65,ti143,ti87, h16, h15]
        refine condC_dec (fun hh => ?_) (fun hh => ?_)
        · obtain ⟨i, o, u, c, r, y, my, rfl, hr, hy, hsx, hok⟩ := hx2.get (j := b) (by omega)
          have hmm := hsx.lenK1
          have hlb := (hin b (by omega)).1
          rw [hmm, hlb] at hsx
          have hsl := hsx.len
          obtain ⟨i7, o7, u7, c7, r7, rfl, hr7, hc7, hs7, hg7⟩ := hsx.get (by omega)
          have g1 := hs7 a (by omega)
          have zz : zeros 1 [.int .i64 0] = [.int .i64 0] := rfl
          try simp (disch := first | omega | (simp only [ints_length, List.length_replicate, List.length_set, colL_length]; done) | (simp only [ints_length, List.length_replicate, List.length_set, colL_length]; omega)) only [Sall,evalOp,init,binE,binI,unE,convE,okNil,builtE,gv,TD.isAgg,resV,↓reduceIte,Nat.reduceEqDiff,reduceCtorEq,Nat.reduceAdd,Nat.reduceMul,Nat.reduceLeDiff,quietOp,blindOp,Int.reduceEq,Int.reduceLT,Int.reduceLE,Nat.reduceLT,ti2,ti3,ti4,ti45,ti46,ti38,ti25,ti30,ti22,ti32,ti24,ti95,ti172,ti169,ti165,ti166,ti65,ti143,ti87, h16, h15, h14, h6, h5, h10, h9, h0, h1, hr, hy, hok, hr7, g1, zz, slCells]
          (repeat refine And.intro (by omega) ?_)
          obtain ⟨H4, e4⟩ : ∃ H4, H4 = H2.push ⟨2, true, [.int .i64 ((ll.getD b []).getD a 0)]⟩ := ⟨_, rfl⟩
          have n4 : H4.next = H2.next + 1 := by rw [e4]; rfl
          have s4 : ∀ i, i < H2.next → H4.row i = H2.row i := fun i hi => by rw [e4, AH.push_row, if_neg (by omega)]
          rw [← e4]
          clear e4
          refine appE_fr (k := 1) (lo := lo) (hi := hi) (l := colL ll a b) (m := [(ll.getD b []).getD a 0]) (hw.same fun i _ hi => s4 i (by omega)) rfl (by omega) rfl (by omega) (by decide) (by omega) (by omega) ?_
          intro v' H5 n5 s5 f5
          try simp (disch := first | omega | (simp only [ints_length, List.length_replicate, List.length_set, colL_length]; done) | (simp only [ints_length, List.length_replicate, List.length_set, colL_length]; omega)) only [Sall,evalOp,init,binE,binI,unE,convE,okNil,builtE,gv,TD.isAgg,resV,↓reduceIte,Nat.reduceEqDiff,reduceCtorEq,Nat.reduceAdd,Nat.reduceMul,Nat.reduceLeDiff,quietOp,blindOp,Int.reduceEq,Int.reduceLT,Int.reduceLE,Nat.reduceLT,ti2,ti3,ti4,ti45,ti46,ti38,ti25,ti30,ti22,ti32,ti24,ti95,ti172,ti169,ti165,ti166,ti65,ti143,ti87, h16, h15, h14, h5, h10, h9, h0, h1, w64]
          refine ⟨m - (b + 1), by omega, b + 1, v', H4.next, H4.next + 1, rfl, by omega, rfl, rfl, ⟨by omega, fun i hi => by rw [s5 i (by omega) (by omega), s4 i (by omega), hup2.row i hi]⟩, by omega, by omega, by omega, ?_⟩
          rw [colL_succ]; exact f5
        · have hb2 : b = m := by omega
          subst hb2
          obtain ⟨i, o, u, c, r, y, my, rfl, hr, hy, hsx, hok⟩ := hx2.get (j := a) (by omega)
          have hmm := hsx.lenK1
          rw [hmm] at hsx
          have hla := (hin a (by omega)).1
          try simp (disch := first | omega | (simp only [ints_length, List.length_replicate, List.length_set, colL_length]; done) | (simp only [ints_length, List.length_replicate, List.length_set, colL_length]; omega)) only [Sall,evalOp,init,binE,binI,unE,convE,okNil,builtE,gv,TD.isAgg,resV,↓reduceIte,Nat.reduceEqDiff,reduceCtorEq,Nat.reduceAdd,Nat.reduceMul,Nat.reduceLeDiff,quietOp,blindOp,Int.reduceEq,Int.reduceLT,Int.reduceLE,Nat.reduceLT,ti2,ti3,ti4,ti45,ti46,ti38,ti25,ti30,ti22,ti32,ti24,ti95,ti172,ti169,ti165,ti166,ti65,ti143,ti87, h6, h5, h10, h9, h0, h1, hr, hy, hok]
          (repeat refine And.intro (by omega) ?_)
          refine (isOrder_c b y _ H2 hsx (by omega)).to ?_
          cases ho1 : ordB b (ll.getD a []) with
          | false =>
            try simp (disch := first | omega | (simp only [ints_length, List.length_replicate, List.length_set, colL_length]; done) | (simp only [ints_length, List.length_replicate, List.length_set, colL_length]; omega)) only [Sall,evalOp,init,binE,binI,unE,convE,okNil,builtE,gv,TD.isAgg,resV,↓reduceIte,Nat.reduceEqDiff,reduceCtorEq,Nat.reduceAdd,Nat.reduceMul,Nat.reduceLeDiff,quietOp,blindOp,Int.reduceEq,Int.reduceLT,Int.reduceLE,Nat.reduceLT,ti2,ti3,ti4,ti45,ti46,ti38,ti25,ti30,ti22,ti32,ti24,ti95,ti172,ti169,ti165,ti166,ti65,ti143,ti87, Bool.not_false]
            unfold latB
            rw [all_false_of (i := a) (by omega) (by unfold latAt; rw [ho1, Bool.false_and])]
            exact ⟨rfl, hU2⟩
          | true =>
            have hcl := colL_length ll a b
            have hw3 : Rd 1 H2 w (colL ll a b).length (colL ll a b) := by rw [hcl]; exact hw.rd
            try simp (disch := first | omega | (simp only [ints_length, List.length_replicate, List.length_set, colL_length]; done) | (simp only [ints_length, List.length_replicate, List.length_set, colL_length]; omega)) only [Sall,evalOp,init,binE,binI,unE,convE,okNil,builtE,gv,TD.isAgg,resV,↓reduceIte,Nat.reduceEqDiff,reduceCtorEq,Nat.reduceAdd,Nat.reduceMul,Nat.reduceLeDiff,quietOp,blindOp,Int.reduceEq,Int.reduceLT,Int.reduceLE,Nat.reduceLT,ti2,ti3,ti4,ti45,ti46,ti38,ti25,ti30,ti22,ti32,ti24,ti95,ti172,ti169,ti165,ti166,ti65,ti143,ti87, Bool.not_true, h6, h5, h10, h9, h0, h1]
            refine (isOrder_c b w _ H2 hw3 (by omega)).to ?_
            cases ho2 : ordB b (colL ll a b) with
            | false =>
              try simp (disch := first | omega | (simp only [ints_length, List.length_replicate, List.length_set, colL_length]; done) | (simp only [ints_length, List.length_replicate, List.length_set, colL_length]; omega)) only [Sall,evalOp,init,binE,binI,unE,convE,okNil,builtE,gv,TD.isAgg,resV,↓reduceIte,Nat.reduceEqDiff,reduceCtorEq,Nat.reduceAdd,Nat.reduceMul,Nat.reduceLeDiff,quietOp,blindOp,Int.reduceEq,Int.reduceLT,Int.reduceLE,Nat.reduceLT,ti2,ti3,ti4,ti45,ti46,ti38,ti25,ti30,ti22,ti32,ti24,ti95,ti172,ti169,ti165,ti166,ti65,ti143,ti87, Bool.not_false]
              unfold latB
              rw [all_false_of (i := a) (by omega) (by unfold latAt; rw [ho2, Bool.and_false])]
              exact ⟨rfl, hU2⟩
            | true =>
              try simp (disch := first | omega | (simp only [ints_length, List.length_replicate, List.length_set, colL_length]; done) | (simp only [ints_length, List.length_replicate, List.length_set, colL_length]; omega)) only [Sall,evalOp,init,binE,binI,unE,convE,okNil,builtE,gv,TD.isAgg,resV,↓reduceIte,Nat.reduceEqDiff,reduceCtorEq,Nat.reduceAdd,Nat.reduceMul,Nat.reduceLeDiff,quietOp,blindOp,Int.reduceEq,Int.reduceLT,Int.reduceLE,Nat.reduceLT,ti2,ti3,ti4,ti45,ti46,ti38,ti25,ti30,ti22,ti32,ti24,ti95,ti172,ti169,ti165,ti166,ti65,ti143,ti87, Bool.not_true, h10, h9, h0, h1, w64]
              refine ⟨b - (a + 1), by omega, a + 1, rfl, by omega, rfl, hU2, fun i hi => ?_⟩
              by_cases e : i = a
              · rw [e]; unfold latAt; rw [ho1, ho2]; rfl
              · exact hall i (by omega)
    · try simp (disch := first | omega | (simp only [ints_length, List.length_replicate, List.length_set, colL_length]; done) | (simp only [ints_length, List.length_replicate, List.length_set, colL_length]; omega)) only [Sall,evalOp,init,binE,binI,unE,convE,okNil,builtE,gv,TD.isAgg,resV,↓reduceIte,Nat.reduceEqDiff,reduceCtorEq,Nat.reduceAdd,Nat.reduceMul,Nat.reduceLeDiff,quietOp,blindOp,Int.reduceEq,Int.reduceLT,Int.reduceLE,Nat.reduceLT,ti2,ti3,ti4,ti45,ti46,ti38,ti25,ti30,ti22,ti32,ti24,ti95,ti172,ti169,ti165,ti166,ti65,ti143,ti87, true_and]
      unfold latB
      rw [all_true_of fun i hi => hall i (by omega)]
      exact ⟨rfl, hup⟩
theorem l09Square_c (m : Nat) (x : Value) (ll : List (List Int)) (H : AH) (hx : Rd2 1 H x ll) (hl : ll.length = m) (hm : m ≤ 14) (hin : ∀ i, i < m → (ll.getD i []).length = m ∧ ∀ j, j < m → 0 ≤ (ll.getD i []).getD j 0 ∧ (ll.getD i []).getD j 0 < m) :
    ACalls Try.prog 141 [.int .i64 m, x] H (is (.bool (latB m ll)) H) := by
  refine acalls_up rfl (ACalls.wf (by kernel_rfl) fun hs => acalls_of_awp [.tmp 4] Try.func141 (by kernel_rfl) rfl rfl (Nat.le_of_ble_eq_true rfl) (by kernel_rfl) ?_)
  try simp (disch := first | omega | (simp only [ints_length, List.length_replicate, List.length_set, colL_length]; done) | (simp only [ints_length, List.length_replicate, List.length_set, colL_length]; omega)) only [Sall,evalOp,init,binE,binI,unE,convE,okNil,builtE,gv,TD.isAgg,resV,↓reduceIte,Nat.reduceEqDiff,reduceCtorEq,Nat.reduceAdd,Nat.reduceMul,Nat.reduceLeDiff,quietOp,blindOp,Int.reduceEq,Int.reduceLT,Int.reduceLE,Nat.reduceLT,ti2,ti3,ti4,ti45,ti46,ti38,ti25,ti30,ti22,ti32,ti24,ti95,ti172,ti169,ti165,ti166,ti65,ti143,ti87, true_and]
  refine awp_loop (fun z t H' => ∃ a : Nat, z = m - a ∧ a ≤ m ∧ t 5 = .int .i64 a ∧ t 0 = .int .i64 m ∧ t 1 = x ∧ Up H.next H H' ∧ (∀ i, i < a → latAt m ll i = true)) m ?_ ?_
  · refine ⟨0, by omega, by omega, ?_⟩
    try simp (disch := first | omega | (simp only [ints_length, List.length_replicate, List.length_set, colL_length]; done) | (simp only [ints_length, List.length_replicate, List.length_set, colL_length]; omega)) only [Sall,evalOp,init,binE,binI,unE,convE,okNil,builtE,gv,TD.isAgg,resV,↓reduceIte,Nat.reduceEqDiff,reduceCtorEq,Nat.reduceAdd,Nat.reduceMul,Nat.reduceLeDiff,quietOp,blindOp,Int.reduceEq,Int.reduceLT,Int.reduceLE,Nat.reduceLT,ti2,ti3,ti4,ti45,ti46,ti38,ti25,ti30,ti22,ti32,ti24,ti95,ti172,ti169,ti165,ti166,ti65,ti143,ti87, Int.natCast_zero, Nat.not_lt_zero, false_implies]
    exact Up.refl _ _
  · rintro z t H' ⟨a, hz, ha, h5, h0, h1, hup, hall⟩
    have hup1 := hup.next
    try simp (disch := first | omega | (simp only [ints_length, List.length_replicate, List.length_set, colL_length]; done) | (simp only [ints_length, List.length_replicate, List.length_set, colL_length]; omega)) only [Sall,evalOp,init,binE,binI,unE,convE,okNil,builtE,gv,TD.isAgg,resV,↓reduceIte,Nat.reduceEqDiff,reduceCtorEq,Nat.reduceAdd,Nat.reduceMul,Nat.reduceLeDiff,quietOp,blindOp,Int.reduceEq,Int.reduceLT,Int.reduceLE,Nat.reduceLT,ti2,ti3,ti4,ti45,ti46,ti38,ti25,ti30,ti22,ti32,ti24,ti95,ti172,ti169,ti165,ti166,ti65,ti143,ti87, h5, h0]
    refine condC_dec (fun h => ?_) (fun h => ?_)
    · have hx' := hx.same (hup.le hs).row
      try simp (disch := first | omega | (simp only [ints_length, List.length_replicate, List.length_set, colL_length]; done) | (simp only [ints_length, List.length_replicate, List.length_set, colL_length]; omega)) only [Sall,evalOp,init,binE,binI,unE,convE,okNil,builtE,gv,TD.isAgg,resV,↓reduceIte,Nat.reduceEqDiff,reduceCtorEq,Nat.reduceAdd,Nat.reduceMul,Nat.reduceLeDiff,quietOp,blindOp,Int.reduceEq,Int.reduceLT,Int.reduceLE,Nat.reduceLT,ti2,ti3,ti4,ti45,ti46,ti38,ti25,ti30,ti22,ti32,ti24,ti95,ti172,ti169,ti165,ti166,ti65,ti143,ti87, h5, h0, h1, zeros_zero]
      refine awp_loop (fun z t H2 => ∃ (b : Nat) (w : Value) (lo hi : Nat), z = m - b ∧ b ≤ m ∧ t 7 = .int .i64 b ∧ t 6 = w ∧ t 5 = .int .i64 a ∧ t 0 = .int .i64 m ∧ t 1 = x ∧ Up H'.next H' H2 ∧ H'.next ≤ lo ∧ lo ≤ hi ∧ hi ≤ H2.next ∧ Fr 1 2 lo hi H2 w b (colL ll a b)) m ?_ ?_
      · refine ⟨0, .slice (some ⟨H'.next, 0, some 1⟩) 0 0, H'.next, H'.next + 1, by omega, by omega, ?_⟩
        try simp (disch := first | omega | (simp only [ints_length, List.length_replicate, List.length_set, colL_length]; done) | (simp only [ints_length, List.length_replicate, List.length_set, colL_length]; omega)) only [Sall,evalOp,init,binE,binI,unE,convE,okNil,builtE,gv,TD.isAgg,resV,↓reduceIte,Nat.reduceEqDiff,reduceCtorEq,Nat.reduceAdd,Nat.reduceMul,Nat.reduceLeDiff,quietOp,blindOp,Int.reduceEq,Int.reduceLT,Int.reduceLE,Nat.reduceLT,ti2,ti3,ti4,ti45,ti46,ti38,ti25,ti30,ti22,ti32,ti24,ti95,ti172,ti169,ti165,ti166,ti65,ti143,ti87, Int.natCast_zero, h5, h0, h1]
        refine ⟨(Up.refl _ H').push (by omega) _, ?_⟩
        (repeat refine And.intro (by omega) ?_)
        exact ⟨by simp [colL], .inr ⟨H'.next, Nat.le_refl _, Nat.lt_succ_self _, rfl, by rw [AH.push_row, if_pos rfl]; rfl⟩⟩
      · rintro z t H2 ⟨b, w, lo, hi, hz, hb, h7, h6, h5, h0, h1, hup2, hlo, hlh, hhi, hw⟩
        have hup21 := hup2.next
        have hU2 : Up H.next H H2 := hup.trans hup2 (by omega)
        have hx2 := hx.same (hU2.le hs).row
        try simp (disch := first | omega | (simp only [ints_length, List.length_replicate, List.length_set, colL_length]; done) | (simp only [ints_length, List.length_replicate, List.length_set, colL_length]; omega)) only [Sall,evalOp,init,binE,binI,unE,convE,okNil,builtE,gv,TD.isAgg,resV,↓reduceIte,Nat.reduceEqDiff,reduceCtorEq,Nat.reduceAdd,Nat.reduceMul,Nat.reduceLeDiff,quietOp,blindOp,Int.reduceEq,Int.reduceLT,Int.reduceLE,Nat.reduceLT,ti2,ti3,ti4,ti45,ti46,ti38,ti25,ti30,ti22,ti32,ti24,ti95,ti172,ti169,ti165,ti166,ti65,ti143,ti87, h7, h0]
        refine condC_dec (fun hh => ?_) (fun hh => ?_)
        · obtain ⟨i, o, u, c, r, y, my, rfl, hr, hy, hsx, hok⟩ := hx2.get (j := b) (by omega)
          have hmm := hsx.lenK1
          have hlb := (hin b (by omega)).1
          rw [hmm, hlb] at hsx
          have hsl := hsx.len
          obtain ⟨i7, o7, u7, c7, r7, rfl, hr7, hc7, hs7, hg7⟩ := hsx.get (by omega)
          have g1 := hs7 a (by omega)
          have zz : zeros 1 [.int .i64 0] = [.int .i64 0] := rfl
          try simp (disch := first | omega | (simp only [ints_length, List.length_replicate, List.length_set, colL_length]; done) | (simp only [ints_length, List.length_replicate, List.length_set, colL_length]; omega)) only [Sall,evalOp,init,binE,binI,unE,convE,okNil,builtE,gv,TD.isAgg,resV,↓reduceIte,Nat.reduceEqDiff,reduceCtorEq,Nat.reduceAdd,Nat.reduceMul,Nat.reduceLeDiff,quietOp,blindOp,Int.reduceEq,Int.reduceLT,Int.reduceLE,Nat.reduceLT,ti2,ti3,ti4,ti45,ti46,ti38,ti25,ti30,ti22,ti32,ti24,ti95,ti172,ti169,ti165,ti166,ti65,ti143,ti87, h7, h6, h5, h0, h1, hr, hy, hok, hr7, g1, zz, slCells]
          (repeat refine And.intro (by omega) ?_)
          obtain ⟨H4, e4⟩ : ∃ H4, H4 = H2.push ⟨2, true, [.int .i64 ((ll.getD b []).getD a 0)]⟩ := ⟨_, rfl⟩
          have n4 : H4.next = H2.next + 1 := by rw [e4]; rfl
          have s4 : ∀ i, i < H2.next → H4.row i = H2.row i := fun i hi => by rw [e4, AH.push_row, if_neg (by omega)]
          rw [← e4]
          clear e4
          refine appE_fr (k := 1) (lo := lo) (hi := hi) (l := colL ll a b) (m := [(ll.getD b []).getD a 0]) (hw.same fun i _ hi => s4 i (by omega)) rfl (by omega) rfl (by omega) (by decide) (by omega) (by omega) ?_
          intro v' H5 n5 s5 f5
          try simp (disch := first | omega | (simp only [ints_length, List.length_replicate, List.length_set, colL_length]; done) | (simp only [ints_length, List.length_replicate, List.length_set, colL_length]; omega)) only [Sall,evalOp,init,binE,binI,unE,convE,okNil,builtE,gv,TD.isAgg,resV,↓reduceIte,Nat.reduceEqDiff,reduceCtorEq,Nat.reduceAdd,Nat.reduceMul,Nat.reduceLeDiff,quietOp,blindOp,Int.reduceEq,Int.reduceLT,Int.reduceLE,Nat.reduceLT,ti2,ti3,ti4,ti45,ti46,ti38,ti25,ti30,ti22,ti32,ti24,ti95,ti172,ti169,ti165,ti166,ti65,ti143,ti87, h7, h5, h0, h1, w64]
          refine ⟨m - (b + 1), by omega, b + 1, v', H4.next, H4.next + 1, rfl, by omega, rfl, rfl, ⟨by omega, fun i hi => by rw [s5 i (by omega) (by omega), s4 i (by omega), hup2.row i hi]⟩, by omega, by omega, by omega, ?_⟩
          rw [colL_succ]; exact f5
        · have hb2 : b = m := by omega
          subst hb2
          obtain ⟨i, o, u, c, r, y, my, rfl, hr, hy, hsx, hok⟩ := hx2.get (j := a) (by omega)
          have hmm := hsx.lenK1
          rw [hmm] at hsx
          have hla := (hin a (by omega)).1
          try simp (disch := first | omega | (simp only [ints_length, List.length_replicate, List.length_set, colL_length]; done) | (simp only [ints_length, List.length_replicate, List.length_set, colL_length]; omega)) only [Sall,evalOp,init,binE,binI,unE,convE,okNil,builtE,gv,TD.isAgg,resV,↓reduceIte,Nat.reduceEqDiff,reduceCtorEq,Nat.reduceAdd,Nat.reduceMul,Nat.reduceLeDiff,quietOp,blindOp,Int.reduceEq,Int.reduceLT,Int.reduceLE,Nat.reduceLT,ti2,ti3,ti4,ti45,ti46,ti38,ti25,ti30,ti22,ti32,ti24,ti95,ti172,ti169,ti165,ti166,ti65,ti143,ti87, h6, h5, h0, h1, hr, hy, hok]
          (repeat refine And.intro (by omega) ?_)
          refine (l01Order_c b (by omega) y _ H2 hsx (by omega)).to ?_
          cases ho1 : ordB b (ll.getD a []) with
          | false =>
            try simp (disch := first | omega | (simp only [ints_length, List.length_replicate, List.length_set, colL_length]; done) | (simp only [ints_length, List.length_replicate, List.length_set, colL_length]; omega)) only [Sall,evalOp,init,binE,binI,unE,convE,okNil,builtE,gv,TD.isAgg,resV,↓reduceIte,Nat.reduceEqDiff,reduceCtorEq,Nat.reduceAdd,Nat.reduceMul,Nat.reduceLeDiff,quietOp,blindOp,Int.reduceEq,Int.reduceLT,Int.reduceLE,Nat.reduceLT,ti2,ti3,ti4,ti45,ti46,ti38,ti25,ti30,ti22,ti32,ti24,ti95,ti172,ti169,ti165,ti166,ti65,ti143,ti87, Bool.not_false]
            unfold latB
            rw [all_false_of (i := a) (by omega) (by unfold latAt; rw [ho1, Bool.false_and])]
            exact ⟨rfl, hU2⟩
          | true =>
            have hcl := colL_length ll a b
            have hw3 : Rd 1 H2 w (colL ll a b).length (colL ll a b) := by rw [hcl]; exact hw.rd
            try simp (disch := first | omega | (simp only [ints_length, List.length_replicate, List.length_set, colL_length]; done) | (simp only [ints_length, List.length_replicate, List.length_set, colL_length]; omega)) only [Sall,evalOp,init,binE,binI,unE,convE,okNil,builtE,gv,TD.isAgg,resV,↓reduceIte,Nat.reduceEqDiff,reduceCtorEq,Nat.reduceAdd,Nat.reduceMul,Nat.reduceLeDiff,quietOp,blindOp,Int.reduceEq,Int.reduceLT,Int.reduceLE,Nat.reduceLT,ti2,ti3,ti4,ti45,ti46,ti38,ti25,ti30,ti22,ti32,ti24,ti95,ti172,ti169,ti165,ti166,ti65,ti143,ti87, Bool.not_true, h6, h5, h0, h1]
            refine (l01Order_c b (by omega) w _ H2 hw3 (by omega)).to ?_
            cases ho2 : ordB b (colL ll a b) with
            | false =>
              try simp (disch := first | omega | (simp only [ints_length, List.length_replicate, List.length_set, colL_length]; done) | (simp only [ints_length, List.length_replicate, List.length_set, colL_length]; omega)) only [Sall,evalOp,init,binE,binI,unE,convE,okNil,builtE,gv,TD.isAgg,resV,↓reduceIte,Nat.reduceEqDiff,reduceCtorEq,Nat.reduceAdd,Nat.reduceMul,Nat.reduceLeDiff,quietOp,blindOp,Int.reduceEq,Int.reduceLT,Int.reduceLE,Nat.reduceLT,ti2,ti3,ti4,ti45,ti46,ti38,ti25,ti30,ti22,ti32,ti24,ti95,ti172,ti169,ti165,ti166,ti65,ti143,ti87, Bool.not_false]
              unfold latB
              rw [all_false_of (i := a) (by omega) (by unfold latAt; rw [ho2, Bool.and_false])]
              exact ⟨rfl, hU2⟩
            | true =>
              try simp (disch := first | omega | (simp only [ints_length, List.length_replicate, List.length_set, colL_length]; done) | (simp only [ints_length, List.length_replicate, List.length_set, colL_length]; omega)) only [Sall,evalOp,init,binE,binI,unE,convE,okNil,builtE,gv,TD.isAgg,resV,↓reduceIte,Nat.reduceEqDiff,reduceCtorEq,Nat.reduceAdd,Nat.reduceMul,Nat.reduceLeDiff,quietOp,blindOp,Int.reduceEq,Int.reduceLT,Int.reduceLE,Nat.reduceLT,ti2,ti3,ti4,ti45,ti46,ti38,ti25,ti30,ti22,ti32,ti24,ti95,ti172,ti169,ti165,ti166,ti65,ti143,ti87, Bool.not_true, h5, h0, h1, w64]
              refine ⟨b - (a + 1), by omega, a + 1, rfl, by omega, rfl, hU2, fun i hi => ?_⟩
              by_cases e : i = a
              · rw [e]; unfold latAt; rw [ho1, ho2]; rfl
              · exact hall i (by omega)
    · try simp (disch := first | omega | (simp only [ints_length, List.length_replicate, List.length_set, colL_length]; done) | (simp only [ints_length, List.length_replicate, List.length_set, colL_length]; omega)) only [Sall,evalOp,init,binE,binI,unE,convE,okNil,builtE,gv,TD.isAgg,resV,↓reduceIte,Nat.reduceEqDiff,reduceCtorEq,Nat.reduceAdd,Nat.reduceMul,Nat.reduceLeDiff,quietOp,blindOp,Int.reduceEq,Int.reduceLT,Int.reduceLE,Nat.reduceLT,ti2,ti3,ti4,ti45,ti46,ti38,ti25,ti30,ti22,ti32,ti24,ti95,ti172,ti169,ti165,ti166,ti65,ti143,ti87, true_and]
      unfold latB
      rw [all_true_of fun i hi => hall i (by omega)]
      exact ⟨rfl, hup⟩

theorem specIsSquareOf_c (n : Int) (x : Value) (ll : List (List Int)) (H : AH) (hn : -9223372036854775808 ≤ n ∧ n ≤ 9223372036854775807) (hx : Rd2 1 H x ll) (hl : ll.length ≤ 4294967296) (hl2 : ∀ r ∈ ll, r.length ≤ 4294967296) :
    ACalls Try.prog 65 [.int .i64 n, x] H (is (.tuple #[.bool (sqoB n ll), .int .i64 (sqoC n ll)]) H) := by
  refine acalls_of_awp [.tmp 4, .tmp 5] Try.func65 (by kernel_rfl) rfl rfl (Nat.le_of_ble_eq_true rfl) (by kernel_rfl) ?_
  try simp (disch := first | omega | (simp only [ints_length, List.length_replicate, List.length_set, colL_length]; done) | (simp only [ints_length, List.length_replicate, List.length_set, colL_length]; omega)) only [Sall,evalOp,init,binE,binI,unE,convE,okNil,builtE,gv,TD.isAgg,resV,↓reduceIte,Nat.reduceEqDiff,reduceCtorEq,Nat.reduceAdd,Nat.reduceMul,Nat.reduceLeDiff,quietOp,blindOp,Int.reduceEq,Int.reduceLT,Int.reduceLE,Nat.reduceLT,ti2,ti3,ti4,ti45,ti46,ti38,ti25,ti30,ti22,ti32,ti24,ti95,ti172,ti169,ti165,ti166,ti65,ti143,ti87, true_and]
  refine (l09Rows_c n x ll H hx hl hl2).to ?_
  unfold sqoC sqoB
  cases hb : haveB n ll with
  | true =>
    obtain ⟨m, rfl, h1, h2, h3, h4⟩ := haveB_at hb
    try simp (disch := first | omega | (simp only [ints_length, List.length_replicate, List.length_set, colL_length]; done) | (simp only [ints_length, List.length_replicate, List.length_set, colL_length]; omega)) only [Sall,evalOp,init,binE,binI,unE,convE,okNil,builtE,gv,TD.isAgg,resV,↓reduceIte,Nat.reduceEqDiff,reduceCtorEq,Nat.reduceAdd,Nat.reduceMul,Nat.reduceLeDiff,quietOp,blindOp,Int.reduceEq,Int.reduceLT,Int.reduceLE,Nat.reduceLT,ti2,ti3,ti4,ti45,ti46,ti38,ti25,ti30,ti22,ti32,ti24,ti95,ti172,ti169,ti165,ti166,ti65,ti143,ti87, bne_self_eq_false]
    refine (l09Square_c m x ll H hx h3 h2 h4).to ?_
    try simp (disch := first | omega | (simp only [ints_length, List.length_replicate, List.length_set, colL_length]; done) | (simp only [ints_length, List.length_replicate, List.length_set, colL_length]; omega)) only [Sall,evalOp,init,binE,binI,unE,convE,okNil,builtE,gv,TD.isAgg,resV,↓reduceIte,Nat.reduceEqDiff,reduceCtorEq,Nat.reduceAdd,Nat.reduceMul,Nat.reduceLeDiff,quietOp,blindOp,Int.reduceEq,Int.reduceLT,Int.reduceLE,Nat.reduceLT,ti2,ti3,ti4,ti45,ti46,ti38,ti25,ti30,ti22,ti32,ti24,ti95,ti172,ti169,ti165,ti166,ti65,ti143,ti87, is, Bool.true_and, Int.toNat_natCast]
  | false =>
    have e : ((2 : Int) != 0) = true := by decide
    try simp (disch := first | omega | (simp only [ints_length, List.length_replicate, List.length_set, colL_length]; done) | (simp only [ints_length, List.length_replicate, List.length_set, colL_length]; omega)) only [Sall,evalOp,init,binE,binI,unE,convE,okNil,builtE,gv,TD.isAgg,resV,↓reduceIte,Nat.reduceEqDiff,reduceCtorEq,Nat.reduceAdd,Nat.reduceMul,Nat.reduceLeDiff,quietOp,blindOp,Int.reduceEq,Int.reduceLT,Int.reduceLE,Nat.reduceLT,ti2,ti3,ti4,ti45,ti46,ti38,ti25,ti30,ti22,ti32,ti24,ti95,ti172,ti169,ti165,ti166,ti65,ti143,ti87, e, is, Bool.false_and]

theorem IsSquareOf_c (n : Int) (x : Value) (ll : List (List Int)) (H : AH) (hn : -9223372036854775808 ≤ n ∧ n ≤ 9223372036854775807) (hx : Rd2 1 H x ll) (hl : ll.length ≤ 4294967296) (hl2 : ∀ r ∈ ll, r.length ≤ 4294967296) :
    ACalls Try.prog 58 [.int .i64 n, x] H (is (.tuple #[.bool (sqoB n ll), .int .i64 (sqoC n ll)]) H) := by
  refine acalls_of_awp [.tmp 4, .tmp 5] Try.func58 (by kernel_rfl) rfl rfl (Nat.le_of_ble_eq_true rfl) (by kernel_rfl) ?_
  try simp (disch := first | omega | (simp only [ints_length, List.length_replicate, List.length_set, colL_length]; done) | (simp only [ints_length, List.length_replicate, List.length_set, colL_length]; omega)) only [Sall,evalOp,init,binE,binI,unE,convE,okNil,builtE,gv,TD.isAgg,resV,↓reduceIte,Nat.reduceEqDiff,reduceCtorEq,Nat.reduceAdd,Nat.reduceMul,Nat.reduceLeDiff,quietOp,blindOp,Int.reduceEq,Int.reduceLT,Int.reduceLE,Nat.reduceLT,ti2,ti3,ti4,ti45,ti46,ti38,ti25,ti30,ti22,ti32,ti24,ti95,ti172,ti169,ti165,ti166,ti65,ti143,ti87, true_and]
  refine (haveSquare_c n x ll H hx hl hl2).to ?_
  unfold sqoC sqoB
  cases hb : haveB n ll with
  | true =>
    obtain ⟨m, rfl, h1, h2, h3, h4⟩ := haveB_at hb
    try simp (disch := first | omega | (simp only [ints_length, List.length_replicate, List.length_set, colL_length]; done) | (simp only [ints_length, List.length_replicate, List.length_set, colL_length]; omega)) only [Sall,evalOp,init,binE,binI,unE,convE,okNil,builtE,gv,TD.isAgg,resV,↓reduceIte,Nat.reduceEqDiff,reduceCtorEq,Nat.reduceAdd,Nat.reduceMul,Nat.reduceLeDiff,quietOp,blindOp,Int.reduceEq,Int.reduceLT,Int.reduceLE,Nat.reduceLT,ti2,ti3,ti4,ti45,ti46,ti38,ti25,ti30,ti22,ti32,ti24,ti95,ti172,ti169,ti165,ti166,ti65,ti143,ti87, Bool.not_true]
    refine (isLatin_c m x ll H hx h3 h2 h4).to ?_
    try simp (disch := first | omega | (simp only [ints_length, List.length_replicate, List.length_set, colL_length]; done) | (simp only [ints_length, List.length_replicate, List.length_set, colL_length]; omega)) only [Sall,evalOp,init,binE,binI,unE,convE,okNil,builtE,gv,TD.isAgg,resV,↓reduceIte,Nat.reduceEqDiff,reduceCtorEq,Nat.reduceAdd,Nat.reduceMul,Nat.reduceLeDiff,quietOp,blindOp,Int.reduceEq,Int.reduceLT,Int.reduceLE,Nat.reduceLT,ti2,ti3,ti4,ti45,ti46,ti38,ti25,ti30,ti22,ti32,ti24,ti95,ti172,ti169,ti165,ti166,ti65,ti143,ti87, is, Bool.true_and, Int.toNat_natCast]
  | false =>
    try simp (disch := first | omega | (simp only [ints_length, List.length_replicate, List.length_set, colL_length]; done) | (simp only [ints_length, List.length_replicate, List.length_set, colL_length]; omega)) only [Sall,evalOp,init,binE,binI,unE,convE,okNil,builtE,gv,TD.isAgg,resV,↓reduceIte,Nat.reduceEqDiff,reduceCtorEq,Nat.reduceAdd,Nat.reduceMul,Nat.reduceLeDiff,quietOp,blindOp,Int.reduceEq,Int.reduceLT,Int.reduceLE,Nat.reduceLT,ti2,ti3,ti4,ti45,ti46,ti38,ti25,ti30,ti22,ti32,ti24,ti95,ti172,ti169,ti165,ti166,ti65,ti143,ti87, Bool.not_false, is, Bool.false_and]
end Go.Proofs.Ytgkmdfjjlghecaa.A
end

section
set_option linter.unusedSimpArgs false
set_option linter.unusedVariables false
set_option maxRecDepth 100000
set_option maxHeartbeats 2000000
namespace Go.Proofs.Ytgkmdfjjlghecaa.A
open Go Go.Abs Go.RowKit Go.Shelf Go.Sort

def compactRen : Go.Shelf.Ren := ⟨fun | 43 => 187 | n => n, fun | 22 => 38 | 23 => 2 | 3 => 3 | 4 => 4 | 0 => 0 | n => n, fun | n => n⟩
theorem compactLy : Go.Proofs.SlLaysN.n43 Try.prog compactRen := {
  mixed := by kernel_rfl
  f43 := ⟨Try.f187.name, by decide, Try.func187.trans (congrArg some (by kernel_rfl))⟩
  t0 := Try.underlying0
  a0 := Try.isAgg0
  z0 := Try.sizeOf0
  v0 := Try.zeroValue0
  t3 := Try.underlying3
  a3 := Try.isAgg3
  z3 := Try.sizeOf3
  v3 := Try.zeroValue3
  t4 := Try.underlying4
  a4 := Try.isAgg4
  z4 := Try.sizeOf4
  v4 := Try.zeroValue4
  t22 := Try.underlying38
  a22 := Try.isAgg38
  z22 := Try.sizeOf38
  v22 := Try.zeroValue38
  t23 := Try.underlying2
  a23 := Try.isAgg2
  z23 := Try.sizeOf2
  v23 := Try.zeroValue2
  i23 := by kernel_rfl }

theorem compact_c (v : Value) (y : List Int) (lo hi : Nat) (H : AH) (hv : Fr 1 2 lo hi H v y.length y) (hy : y.length ≤ 4294967296) :
    ACalls Try.prog 187 [v] H (fun u H' => (∀ H2, asSl u (.val (.int .i64 0) H2) (fun _ _ _ n _ => .val (.int .i64 (n : Int)) H2) = .val (.int .i64 (Lib.compact y).length) H2) ∧ H'.next = H.next ∧ ∀ i, ¬ (lo ≤ i ∧ i < hi) → H'.row i = H.row i) := by
  refine ⟨by kernel_rfl, fun base ρ w args' R hL => ?_⟩
  obtain ⟨hl, hx⟩ := hL
  match args', hl, hx with
  | [a], _, hx =>
    have hva := hx 0 _ _ rfl rfl
    obtain ⟨_, ⟨h0, rfl⟩ | ⟨i, h1, h2, rfl, hr⟩⟩ := hv
    · obtain ⟨_, _, rfl⟩ := hva.nils
      have hy0 : y = [] := List.eq_nil_of_length_eq_zero h0
      subst hy0
      refine (AnyG.slices_Compact_int_empty compactLy none 0 w).mono ?_
      rintro e w' ⟨rfl, rfl⟩
      exact ⟨_, .slice none 0 0, H, ρ, rfl, ⟨fun _ => rfl, rfl, fun _ _ => rfl⟩, R, .scal rfl, Ext.refl _ _ _ _⟩
    · obtain ⟨hi1, a', c', rfl, hc, ⟨rfl, hb, hmx⟩ | ⟨_, h⟩⟩ := hva.slu
      · obtain ⟨hbase, cs, hcs, hL1⟩ := R.rwr i _ hr rfl
        have hL2 : L1 ρ H.next w (ints y) (cs.toList.take y.length) := by simpa [ints_length] using hL1
        have ht : cs.toList.take y.length = y.map (Value.int .i64) := by
          have e : cs.toList.take y.length = ints y := by
            apply List.ext_getElem?
            intro j
            by_cases hj : j < (ints y).length
            · obtain ⟨z, hz, hv1⟩ := hL2.get (ints_get? y j (by rwa [ints_length] at hj))
              rw [hz, ints_get? y j (by rwa [ints_length] at hj), VR.int (.one hv1)]
            · rw [List.getElem?_eq_none (l := ints y) (by omega), List.getElem?_eq_none (by have := hL2.1; omega)]
          exact e
        have hH : Holds (Value.int .i64) w (ρ i) 0 y.toArray := holds_of_blockI hcs ht
        refine (AnyG.slices_Compact_int compactLy (ρ i) 0 c' y w hH (by omega) hc).mono ?_
        rintro e w' ⟨rfl, q, hw'⟩
        obtain ⟨d, hd⟩ : ∃ d, d = Lib.compact y ++ List.replicate (y.length - (Lib.compact y).length) 0 := ⟨_, rfl⟩
        have hle : (Lib.compact y).length ≤ y.length := by
          unfold Lib.compact Lib.compactUpTo
          rw [List.length_map]
          exact Nat.le_trans (List.length_filter_le _ _) (by simp)
        have hdl : d.length = y.length := by rw [hd, List.length_append, List.length_replicate]; omega
        rw [← hd] at hw'
        have hw2 : w' = grow (putRow (Value.int .i64) (Sort.ahead w q) (ρ i) 0 d.toArray) #[] := by rw [hw', grow_empty]
        have hg : w.grownBy w' (some (ρ i)) := by rw [hw2]; exact grownBy_sortedI _
        have h1' := heap_sortedI (n := q) (os := #[]) d.toArray hcs
        rw [← hw2] at h1'
        have hbs : cs.size = c' := by have := hb; simp [bsz, hcs] at this; omega
        have hx2 : L1 ρ H.next w (ints d) ((putCells (Value.int .i64) 0 d.toArray cs).toList.take (ints d).length) := by
          rw [ints_length, take_putCellsI cs d (by omega)]
          exact L1.self fun v hv => by obtain ⟨z, _, rfl⟩ := List.mem_map.1 hv; rfl
        obtain ⟨R', E⟩ := R.turned hr rfl hg hcs h1' (by simp [putCells]) hx2
        refine ⟨_, .slice (some ⟨i, 0, some 1⟩) (Lib.compact y).length (Lib.compact y).length, H.setCells i (ints d), ρ, rfl, ⟨fun _ => rfl, rfl, fun j hj => by rw [AH.setCells_row, if_neg (by rintro rfl; exact hj ⟨h1, h2⟩)]⟩, R', .one (.slu _ _ _ _ _ _ _ hi1 (by omega) (.inl ⟨rfl, ?_, hmx⟩)), E⟩
        have := E.st _ _ hb
        exact this
      · exact absurd h (by omega)
end Go.Proofs.Ytgkmdfjjlghecaa.A
end

section
set_option linter.unusedSimpArgs false
set_option linter.unusedVariables false
namespace Go.Abs

theorem compact_len (z : List Int) (hz : z.Pairwise (fun x y => x ≤ y)) : (Go.Lib.compact z).length = z.length ↔ z.Nodup := by
  have e : (Go.Lib.compact z).length = ((List.range z.length).filter (Go.Lib.keeps z.toArray)).length := by
    unfold Go.Lib.compact Go.Lib.compactUpTo
    rw [List.length_map]
  have e2 : (Go.Lib.compact z).length = z.length ↔ ∀ j ∈ List.range z.length, Go.Lib.keeps z.toArray j = true := by
    rw [e]
    have := List.length_filter_eq_length_iff (p := Go.Lib.keeps z.toArray) (l := List.range z.length)
    rw [List.length_range] at this
    exact this
  rw [e2]
  have kp : ∀ j (h : j + 1 < z.length), Go.Lib.keeps z.toArray (j + 1) = true ↔ z[j + 1] ≠ z[j] := by
    intro j h
    unfold Go.Lib.keeps
    have h1 : z.toArray[j + 1]! = z[j + 1] := by rw [getElem!_pos _ _ (by simpa using h)]; simp
    have h2 : z.toArray[j]! = z[j] := by rw [getElem!_pos _ _ (by simp; omega)]; simp
    simp only [Nat.add_sub_cancel, h1, h2]
    simp
  constructor
  · intro h
    have hlt : z.Pairwise (fun x y => x < y) := by
      rw [List.pairwise_iff_getElem] at hz ⊢
      intro i j hi hj hij
      have h1 := (kp i (by omega)).1 (h (i + 1) (by simp; omega))
      have h2 := hz i (i + 1) hi (by omega) (by omega)
      by_cases e : i + 1 = j
      · subst e; omega
      · have h3 := hz (i + 1) j (by omega) hj (by omega)
        omega
    exact hlt.imp (by intro x y h; omega)
  · intro h j hj
    have hj' : j < z.length := by simpa using hj
    cases j with
    | zero => simp [Go.Lib.keeps]
    | succ j =>
      rw [kp j hj']
      intro e
      have := (List.getElem_inj h).1 e
      omega
theorem compact_sorted (y : List Int) : (((Go.Lib.compact (sortedL y)).length : Int) == (y.length : Int)) = decide y.Nodup := by
  rw [Bool.eq_iff_iff, beq_iff_eq, decide_eq_true_iff]
  have h := compact_len (sortedL y) (sortedL_sorted y)
  rw [sortedL_length, (sortedL_perm y).nodup_iff] at h
  rw [← h]
  omega
theorem contains_sorted (y : List Int) (x : Int) : (sortedL y).contains x = y.contains x := by
  rw [Bool.eq_iff_iff, List.contains_iff_mem, List.contains_iff_mem]
  exact (sortedL_perm y).mem_iff
/-- What IsStepSequence answers. -/
def sqnC (ok : Bool) : Int := if ok = true then 0 else 2
end Go.Abs
end

section
set_option linter.unusedSimpArgs false
set_option linter.unusedVariables false
set_option maxRecDepth 100000
set_option maxHeartbeats 2000000
namespace Go.Proofs.Ytgkmdfjjlghecaa.A
open Go Go.Abs Go.RowKit

theorem areDifferent_c (v : Value) (y : List Int) (H : AH) (hv : Rd 1 H v y.length y) (hy : y.length ≤ 4194304) :
    ACalls Try.prog 131 [v] H (is (.bool (diffB y)) H) := by
  refine acalls_up rfl (ACalls.wf (by kernel_rfl) fun hs => acalls_of_awp [.tmp 2] Try.func131 (by kernel_rfl) rfl rfl (Nat.le_of_ble_eq_true rfl) (by kernel_rfl) ?_)
  try simp (disch := first | omega | (simp only [ints_length, List.length_replicate, List.length_set, stpL_length]; done) | (simp only [ints_length, List.length_replicate, List.length_set, stpL_length]; omega)) only [Sall,evalOp,init,binE,binI,unE,convE,okNil,builtE,gv,TD.isAgg,resV,↓reduceIte,Nat.reduceEqDiff,reduceCtorEq,Nat.reduceAdd,Nat.reduceMul,Nat.reduceLeDiff,quietOp,blindOp,Int.reduceEq,Int.reduceLT,Int.reduceLE,Nat.reduceLT,ti2,ti3,ti4,ti45,ti46,ti38,ti25,ti30,ti22,ti32,ti24,ti95,ti172,ti169,ti165,ti166,ti65,ti143,ti87, true_and]
  refine (values_c v H hv.one).to ?_
  try simp (disch := first | omega | (simp only [ints_length, List.length_replicate, List.length_set, stpL_length]; done) | (simp only [ints_length, List.length_replicate, List.length_set, stpL_length]; omega)) only [Sall,evalOp,init,binE,binI,unE,convE,okNil,builtE,gv,TD.isAgg,resV,↓reduceIte,Nat.reduceEqDiff,reduceCtorEq,Nat.reduceAdd,Nat.reduceMul,Nat.reduceLeDiff,quietOp,blindOp,Int.reduceEq,Int.reduceLT,Int.reduceLE,Nat.reduceLT,ti2,ti3,ti4,ti45,ti46,ti38,ti25,ti30,ti22,ti32,ti24,ti95,ti172,ti169,ti165,ti166,ti65,ti143,ti87, true_and]
  have up : Up H.next H (H.push ⟨38, true, [v]⟩) := (Up.refl _ H).push (Nat.le_refl _) _
  have e1 : (H.push ⟨38, true, [v]⟩).row H.next = some ⟨38, true, [v]⟩ := by rw [AH.push_row, if_pos rfl]
  have n1 : (H.push ⟨38, true, [v]⟩).next = H.next + 1 := rfl
  revert up e1 n1
  generalize H.push ⟨38, true, [v]⟩ = H1
  intro up e1 n1
  refine (sorted_c H.next v y H1 e1 (hv.same (up.le hs).row) (by omega)).mono ?_
  rintro u H2 ⟨up2, hf⟩
  have hl2 := sortedL_length y
  have n2 := up2.next
  have u2 : Up H.next H H2 := up.trans up2 (by omega)
  have hf' : Fr 1 2 H1.next H2.next H2 u (sortedL y).length (sortedL y) := by rw [hl2]; exact hf
  refine Holds.mp ?_
  try simp (disch := first | omega | (simp only [ints_length, List.length_replicate, List.length_set, stpL_length]; done) | (simp only [ints_length, List.length_replicate, List.length_set, stpL_length]; omega)) only [Sall,evalOp,init,binE,binI,unE,convE,okNil,builtE,gv,TD.isAgg,resV,↓reduceIte,Nat.reduceEqDiff,reduceCtorEq,Nat.reduceAdd,Nat.reduceMul,Nat.reduceLeDiff,quietOp,blindOp,Int.reduceEq,Int.reduceLT,Int.reduceLE,Nat.reduceLT,ti2,ti3,ti4,ti45,ti46,ti38,ti25,ti30,ti22,ti32,ti24,ti95,ti172,ti169,ti165,ti166,ti65,ti143,ti87, true_and]
  refine (containsI_c u (sortedL y) 0 H2 hf'.rd (by omega)).to ?_
  rw [contains_sorted]
  unfold diffB
  cases hc : y.contains 0 with
  | true =>
    try simp (disch := first | omega | (simp only [ints_length, List.length_replicate, List.length_set, stpL_length]; done) | (simp only [ints_length, List.length_replicate, List.length_set, stpL_length]; omega)) only [Sall,evalOp,init,binE,binI,unE,convE,okNil,builtE,gv,TD.isAgg,resV,↓reduceIte,Nat.reduceEqDiff,reduceCtorEq,Nat.reduceAdd,Nat.reduceMul,Nat.reduceLeDiff,quietOp,blindOp,Int.reduceEq,Int.reduceLT,Int.reduceLE,Nat.reduceLT,ti2,ti3,ti4,ti45,ti46,ti38,ti25,ti30,ti22,ti32,ti24,ti95,ti172,ti169,ti165,ti166,ti65,ti143,ti87, Bool.not_true, Bool.false_and]
    exact u2
  | false =>
    try simp (disch := first | omega | (simp only [ints_length, List.length_replicate, List.length_set, stpL_length]; done) | (simp only [ints_length, List.length_replicate, List.length_set, stpL_length]; omega)) only [Sall,evalOp,init,binE,binI,unE,convE,okNil,builtE,gv,TD.isAgg,resV,↓reduceIte,Nat.reduceEqDiff,reduceCtorEq,Nat.reduceAdd,Nat.reduceMul,Nat.reduceLeDiff,quietOp,blindOp,Int.reduceEq,Int.reduceLT,Int.reduceLE,Nat.reduceLT,ti2,ti3,ti4,ti45,ti46,ti38,ti25,ti30,ti22,ti32,ti24,ti95,ti172,ti169,ti165,ti166,ti65,ti143,ti87, Bool.not_false]
    refine (cloneI_c u (sortedL y) H2 (Cp.of_fr hf') (by omega)).mono ?_
    rintro w H3 ⟨up3, hw⟩
    have n3 := up3.next
    refine Holds.mp ?_
    try simp (disch := first | omega | (simp only [ints_length, List.length_replicate, List.length_set, stpL_length]; done) | (simp only [ints_length, List.length_replicate, List.length_set, stpL_length]; omega)) only [Sall,evalOp,init,binE,binI,unE,convE,okNil,builtE,gv,TD.isAgg,resV,↓reduceIte,Nat.reduceEqDiff,reduceCtorEq,Nat.reduceAdd,Nat.reduceMul,Nat.reduceLeDiff,quietOp,blindOp,Int.reduceEq,Int.reduceLT,Int.reduceLE,Nat.reduceLT,ti2,ti3,ti4,ti45,ti46,ti38,ti25,ti30,ti22,ti32,ti24,ti95,ti172,ti169,ti165,ti166,ti65,ti143,ti87, true_and]
    refine (compact_c w (sortedL y) H2.next H3.next H3 hw (by omega)).mono ?_
    rintro z H4 ⟨hzl, n4, r4⟩
    have hf4 : Fr 1 2 H1.next H2.next H4 u (sortedL y).length (sortedL y) := hf'.same fun i _ hi => by rw [r4 i (by omega), up3.row i (by omega)]
    have hcs := compact_sorted y
    refine Holds.mp ?_
    try simp (disch := first | omega | (simp only [ints_length, List.length_replicate, List.length_set, stpL_length]; done) | (simp only [ints_length, List.length_replicate, List.length_set, stpL_length]; omega)) only [Sall,evalOp,init,binE,binI,unE,convE,okNil,builtE,gv,TD.isAgg,resV,↓reduceIte,Nat.reduceEqDiff,reduceCtorEq,Nat.reduceAdd,Nat.reduceMul,Nat.reduceLeDiff,quietOp,blindOp,Int.reduceEq,Int.reduceLT,Int.reduceLE,Nat.reduceLT,ti2,ti3,ti4,ti45,ti46,ti38,ti25,ti30,ti22,ti32,ti24,ti95,ti172,ti169,ti165,ti166,ti65,ti143,ti87, builtE, hf4.rd.len, hzl, hl2]
    exact ⟨by rw [hcs, Bool.true_and], ⟨by omega, fun i hi => by rw [r4 i (by omega), up3.row i (by omega), u2.row i hi]⟩⟩

theorem steps_c (n : Nat) (hn : 1 ≤ n ∧ n ≤ 1024) (v : Value) (y : List Int) (H : AH) (hv : Rd 1 H v y.length y) (hy : y.length ≤ 4194304) (hin : ∀ x ∈ y, 0 ≤ x ∧ x < n) :
    ACalls Try.prog 132 [v, .int .i64 n] H (fun u H' => Up H.next H H' ∧ Fr 1 2 H.next H'.next H' u (stpL n y).length (stpL n y)) := by
  refine ACalls.wf (by kernel_rfl) fun hs => acalls_of_awp [.tmp 4] Try.func132 (by kernel_rfl) rfl rfl (Nat.le_of_ble_eq_true rfl) (by kernel_rfl) ?_
  have hsl := stpL_length n y
  try simp (disch := first | omega | (simp only [ints_length, List.length_replicate, List.length_set, stpL_length]; done) | (simp only [ints_length, List.length_replicate, List.length_set, stpL_length]; omega)) only [Sall,evalOp,init,binE,binI,unE,convE,okNil,builtE,gv,TD.isAgg,resV,↓reduceIte,Nat.reduceEqDiff,reduceCtorEq,Nat.reduceAdd,Nat.reduceMul,Nat.reduceLeDiff,quietOp,blindOp,Int.reduceEq,Int.reduceLT,Int.reduceLE,Nat.reduceLT,ti2,ti3,ti4,ti45,ti46,ti38,ti25,ti30,ti22,ti32,ti24,ti95,ti172,ti169,ti165,ti166,ti65,ti143,ti87, zeros_zero]
  refine awp_loop (fun m t H' => ∃ (a : Nat) (u : Value) (lo hi : Nat), m = y.length - 1 - a ∧ a ≤ y.length - 1 ∧ t 6 = .int .i64 ((a : Int) + 1) ∧ t 5 = u ∧ t 0 = v ∧ t 1 = .int .i64 n ∧ Up H.next H H' ∧ H.next ≤ lo ∧ lo ≤ hi ∧ hi ≤ H'.next ∧ Fr 1 2 lo hi H' u a ((stpL n y).take a)) (y.length - 1) ?_ ?_
  · refine ⟨0, .slice (some ⟨H.next, 0, some 1⟩) 0 0, H.next, H.next + 1, by omega, by omega, ?_⟩
    try simp (disch := first | omega | (simp only [ints_length, List.length_replicate, List.length_set, stpL_length]; done) | (simp only [ints_length, List.length_replicate, List.length_set, stpL_length]; omega)) only [Sall,evalOp,init,binE,binI,unE,convE,okNil,builtE,gv,TD.isAgg,resV,↓reduceIte,Nat.reduceEqDiff,reduceCtorEq,Nat.reduceAdd,Nat.reduceMul,Nat.reduceLeDiff,quietOp,blindOp,Int.reduceEq,Int.reduceLT,Int.reduceLE,Nat.reduceLT,ti2,ti3,ti4,ti45,ti46,ti38,ti25,ti30,ti22,ti32,ti24,ti95,ti172,ti169,ti165,ti166,ti65,ti143,ti87, Int.natCast_zero, Int.zero_add, List.take_zero]
    refine ⟨(Up.refl _ H).push (by omega) _, ?_⟩
    (repeat refine And.intro (by omega) ?_)
    exact ⟨rfl, .inr ⟨H.next, Nat.le_refl _, Nat.lt_succ_self _, rfl, by rw [AH.push_row, if_pos rfl]; rfl⟩⟩
  · rintro m t H' ⟨a, u, lo, hi, hm, han, h6, h5, h0, h1, hup, hlo, hlh, hhi, hu⟩
    have hup1 := hup.next
    have hv' : Rd 1 H' v y.length y := hv.same (hup.le hs).row
    try simp (disch := first | omega | (simp only [ints_length, List.length_replicate, List.length_set, stpL_length]; done) | (simp only [ints_length, List.length_replicate, List.length_set, stpL_length]; omega)) only [Sall,evalOp,init,binE,binI,unE,convE,okNil,builtE,gv,TD.isAgg,resV,↓reduceIte,Nat.reduceEqDiff,reduceCtorEq,Nat.reduceAdd,Nat.reduceMul,Nat.reduceLeDiff,quietOp,blindOp,Int.reduceEq,Int.reduceLT,Int.reduceLE,Nat.reduceLT,ti2,ti3,ti4,ti45,ti46,ti38,ti25,ti30,ti22,ti32,ti24,ti95,ti172,ti169,ti165,ti166,ti65,ti143,ti87, h6, h0, builtE, hv'.len]
    refine condC_dec (fun h => ?_) (fun h => ?_)
    · obtain ⟨i, o, uu, cc, r, rfl, hr, hc, hg, _⟩ := hv'.get (by omega)
      have g0 := hg a (by omega)
      have g1 := hg (a + 1) (by omega)
      have x0 := hin (y.getD a 0) (by rw [List.getD_eq_getElem?_getD, List.getElem?_eq_getElem (by omega)]; exact List.getElem_mem _)
      have x1 := hin (y.getD (a + 1) 0) (by rw [List.getD_eq_getElem?_getD, List.getElem?_eq_getElem (by omega)]; exact List.getElem_mem _)
      have hst := stpI_impl x0 x1
      have htk := stpL_take n y a (by omega)
      have hsr := stpI_range (show 0 < n by omega) (y.getD a 0) (y.getD (a + 1) 0)
      revert g0 g1 x0 x1 hst htk hsr
      generalize y.getD a 0 = p
      generalize y.getD (a + 1) 0 = q
      generalize stpI n p q = e
      intro g0 g1 x0 x1 hst htk hsr
      have zz : zeros 1 [.int .i64 0] = [.int .i64 0] := rfl
      have ea : (a : Int) + 1 - 1 = a := by omega
      have ec : ((a : Int) + 1).toNat = a + 1 := by omega
      refine draw_id (by kernel_rfl) (by kernel_rfl) ?_
      try simp (disch := first | omega | (simp only [ints_length, List.length_replicate, List.length_set, stpL_length]; done) | (simp only [ints_length, List.length_replicate, List.length_set, stpL_length]; omega)) only [Sall,evalOp,init,binE,binI,unE,convE,okNil,builtE,gv,TD.isAgg,resV,↓reduceIte,Nat.reduceEqDiff,reduceCtorEq,Nat.reduceAdd,Nat.reduceMul,Nat.reduceLeDiff,quietOp,blindOp,Int.reduceEq,Int.reduceLT,Int.reduceLE,Nat.reduceLT,ti2,ti3,ti4,ti45,ti46,ti38,ti25,ti30,ti22,ti32,ti24,ti95,ti172,ti169,ti165,ti166,ti65,ti143,ti87, h6, h5, h0, h1, hr, ea, ec, Int.toNat_natCast, g0, g1, zz, slCells, w64, hst]
      (repeat refine And.intro (by omega) ?_)
      refine ⟨.inr (.inl (by kernel_rfl)), ?_⟩
      obtain ⟨H4, e4⟩ : ∃ H4, H4 = H'.push ⟨2, true, [.int .i64 e]⟩ := ⟨_, rfl⟩
      have n4 : H4.next = H'.next + 1 := by rw [e4]; rfl
      have s4 : ∀ i, i < H'.next → H4.row i = H'.row i := fun i hi => by rw [e4, AH.push_row, if_neg (by omega)]
      rw [← e4]
      clear e4
      refine appE_fr (k := 1) (lo := lo) (hi := hi) (l := (stpL n y).take a) (m := [e]) (hu.same fun i _ hi => s4 i (by omega)) rfl (by omega) rfl (by omega) (by decide) (by omega) (by omega) ?_
      intro v' H5 n5 s5 f5
      refine ⟨.inr (.inl (by kernel_rfl)), ?_⟩
      try simp (disch := first | omega | (simp only [ints_length, List.length_replicate, List.length_set, stpL_length]; done) | (simp only [ints_length, List.length_replicate, List.length_set, stpL_length]; omega)) only [Sall,evalOp,init,binE,binI,unE,convE,okNil,builtE,gv,TD.isAgg,resV,↓reduceIte,Nat.reduceEqDiff,reduceCtorEq,Nat.reduceAdd,Nat.reduceMul,Nat.reduceLeDiff,quietOp,blindOp,Int.reduceEq,Int.reduceLT,Int.reduceLE,Nat.reduceLT,ti2,ti3,ti4,ti45,ti46,ti38,ti25,ti30,ti22,ti32,ti24,ti95,ti172,ti169,ti165,ti166,ti65,ti143,ti87, h6, h0, h1, w64]
      refine ⟨y.length - 1 - (a + 1), by omega, a + 1, v', H4.next, H4.next + 1, rfl, by omega, by omega, rfl, ⟨by omega, fun i hi => by rw [s5 i (by omega) (by omega), s4 i (by omega), hup.row i hi]⟩, by omega, by omega, by omega, ?_⟩
      rw [htk]; exact f5
    · try simp (disch := first | omega | (simp only [ints_length, List.length_replicate, List.length_set, stpL_length]; done) | (simp only [ints_length, List.length_replicate, List.length_set, stpL_length]; omega)) only [Sall,evalOp,init,binE,binI,unE,convE,okNil,builtE,gv,TD.isAgg,resV,↓reduceIte,Nat.reduceEqDiff,reduceCtorEq,Nat.reduceAdd,Nat.reduceMul,Nat.reduceLeDiff,quietOp,blindOp,Int.reduceEq,Int.reduceLT,Int.reduceLE,Nat.reduceLT,ti2,ti3,ti4,ti45,ti46,ti38,ti25,ti30,ti22,ti32,ti24,ti95,ti172,ti169,ti165,ti166,ti65,ti143,ti87, h5]
      have ha : a = y.length - 1 := by omega
      subst ha
      rw [← hsl, List.take_length] at hu
      exact ⟨hup, hu.wide hlo hhi⟩
theorem l03Mod_c (n : Nat) (hn : 1 ≤ n ∧ n ≤ 1024) (a b : Int) (ha : 0 ≤ a ∧ a < n) (hb : 0 ≤ b ∧ b < n) (H : AH) :
    ACalls Try.prog 192 [.int .i64 (b - a), .int .i64 n] H (is (.int .i64 (stpI n a b)) H) := by
  refine acalls_of_awp [.tmp 4] Try.func192 (by kernel_rfl) rfl rfl (Nat.le_of_ble_eq_true rfl) (by kernel_rfl) ?_
  have h1 := stpI_spec (show 0 < n by omega) a b
  have h2 : -(n : Int) < Int.tmod (b - a) n := by
    have := Int.lt_tmod_of_pos (b - a) (show (0 : Int) < n by omega)
    omega
  have h3 : Int.tmod (b - a) n < n := Int.tmod_lt_of_pos _ (by omega)
  have h4 := stpI_range (show 0 < n by omega) a b
  try simp (disch := first | omega | (simp only [ints_length, List.length_replicate, List.length_set, stpL_length]; done) | (simp only [ints_length, List.length_replicate, List.length_set, stpL_length]; omega)) only [Sall,evalOp,init,binE,binI,unE,convE,okNil,builtE,gv,TD.isAgg,resV,↓reduceIte,Nat.reduceEqDiff,reduceCtorEq,Nat.reduceAdd,Nat.reduceMul,Nat.reduceLeDiff,quietOp,blindOp,Int.reduceEq,Int.reduceLT,Int.reduceLE,Nat.reduceLT,ti2,ti3,ti4,ti45,ti46,ti38,ti25,ti30,ti22,ti32,ti24,ti95,ti172,ti169,ti165,ti166,ti65,ti143,ti87, w64, h1, is]
  omega

theorem l09Step_c (n : Nat) (hn : 1 ≤ n ∧ n ≤ 1024) (v : Value) (y : List Int) (H : AH) (hv : Rd 1 H v y.length y) (hy : y.length ≤ 4194304) (hin : ∀ x ∈ y, 0 ≤ x ∧ x < n) :
    ACalls Try.prog 133 [v, .int .i64 n] H (is (.bool (stpB n y)) H) := by
  refine acalls_up rfl (ACalls.wf (by kernel_rfl) fun hs => acalls_of_awp [.tmp 4] Try.func133 (by kernel_rfl) rfl rfl (Nat.le_of_ble_eq_true rfl) (by kernel_rfl) ?_)
  have hsl := stpL_length n y
  try simp (disch := first | omega | (simp only [ints_length, List.length_replicate, List.length_set, stpL_length]; done) | (simp only [ints_length, List.length_replicate, List.length_set, stpL_length]; omega)) only [Sall,evalOp,init,binE,binI,unE,convE,okNil,builtE,gv,TD.isAgg,resV,↓reduceIte,Nat.reduceEqDiff,reduceCtorEq,Nat.reduceAdd,Nat.reduceMul,Nat.reduceLeDiff,quietOp,blindOp,Int.reduceEq,Int.reduceLT,Int.reduceLE,Nat.reduceLT,ti2,ti3,ti4,ti45,ti46,ti38,ti25,ti30,ti22,ti32,ti24,ti95,ti172,ti169,ti165,ti166,ti65,ti143,ti87, zeros_bools, ← metL_nil]
  (repeat refine And.intro (by omega) ?_)
  refine awp_loop (fun m t H' => ∃ a : Nat, m = y.length - 1 - a ∧ a ≤ y.length - 1 ∧ t 6 = .int .i64 ((a : Int) + 1) ∧ t 5 = .slice (some ⟨H.next, 0, some 1⟩) n n ∧ t 0 = v ∧ t 1 = .int .i64 n ∧ H.next < H'.next ∧ (∀ i, i < H.next → H'.row i = H.row i) ∧ H'.row H.next = some ⟨4, true, bools (metL n ((stpL n y).take a))⟩ ∧ ((stpL n y).take a).Nodup) (y.length - 1) ?_ ?_
  · refine ⟨0, by omega, by omega, ?_⟩
    try simp (disch := first | omega | (simp only [ints_length, List.length_replicate, List.length_set, stpL_length]; done) | (simp only [ints_length, List.length_replicate, List.length_set, stpL_length]; omega)) only [Sall,evalOp,init,binE,binI,unE,convE,okNil,builtE,gv,TD.isAgg,resV,↓reduceIte,Nat.reduceEqDiff,reduceCtorEq,Nat.reduceAdd,Nat.reduceMul,Nat.reduceLeDiff,quietOp,blindOp,Int.reduceEq,Int.reduceLT,Int.reduceLE,Nat.reduceLT,ti2,ti3,ti4,ti45,ti46,ti38,ti25,ti30,ti22,ti32,ti24,ti95,ti172,ti169,ti165,ti166,ti65,ti143,ti87, Int.natCast_zero, Int.zero_add, List.take_zero]
    exact ⟨by omega, fun i hi => by rw [if_neg (by omega)], by simp⟩
  · rintro m t H' ⟨a, hm, han, h6, h5, h0, h1, hnx, hrows, hrow, hnd⟩
    have up : Up H.next H H' := ⟨by omega, hrows⟩
    have hv' : Rd 1 H' v y.length y := hv.same (up.le hs).row
    try simp (disch := first | omega | (simp only [ints_length, List.length_replicate, List.length_set, stpL_length]; done) | (simp only [ints_length, List.length_replicate, List.length_set, stpL_length]; omega)) only [Sall,evalOp,init,binE,binI,unE,convE,okNil,builtE,gv,TD.isAgg,resV,↓reduceIte,Nat.reduceEqDiff,reduceCtorEq,Nat.reduceAdd,Nat.reduceMul,Nat.reduceLeDiff,quietOp,blindOp,Int.reduceEq,Int.reduceLT,Int.reduceLE,Nat.reduceLT,ti2,ti3,ti4,ti45,ti46,ti38,ti25,ti30,ti22,ti32,ti24,ti95,ti172,ti169,ti165,ti166,ti65,ti143,ti87, h6, h0, builtE, hv'.len]
    refine condC_dec (fun h => ?_) (fun h => ?_)
    · have hbad := stpB_bad (n := n) (y := y) (i := a) (by omega)
      have htk := stpL_take n y a (by omega)
      have hir : ∀ i r, H.row i = some r → H'.row i = some r := fun i r hr => by rw [hrows i (hs _ _ hr)]; exact hr
      obtain ⟨i, o, uu, cc, r, rfl, hr, hc, hg, _⟩ := hv.get (by omega)
      have ne : ¬ i = H.next := by have := hs _ _ hr; omega
      replace hr := hir _ _ hr
      have g0 := hg a (by omega)
      have g1 := hg (a + 1) (by omega)
      have x0 := hin (y.getD a 0) (by rw [List.getD_eq_getElem?_getD, List.getElem?_eq_getElem (by omega)]; exact List.getElem_mem _)
      have x1 := hin (y.getD (a + 1) 0) (by rw [List.getD_eq_getElem?_getD, List.getElem?_eq_getElem (by omega)]; exact List.getElem_mem _)
      have hsr := stpI_range (show 0 < n by omega) (y.getD a 0) (y.getD (a + 1) 0)
      have hmod := l03Mod_c n hn (y.getD a 0) (y.getD (a + 1) 0) x0 x1 H'
      revert g0 g1 x0 x1 htk hsr hmod hbad
      generalize y.getD a 0 = p
      generalize y.getD (a + 1) 0 = q
      generalize stpI n p q = e
      intro hbad htk g0 g1 x0 x1 hsr hmod
      have ea : (a : Int) + 1 - 1 = a := by omega
      have ec : ((a : Int) + 1).toNat = a + 1 := by omega
      have g2 := metL_get? n ((stpL n y).take a) e hsr
      have g3 := metL_put n ((stpL n y).take a) e hsr
      refine draw_id (by kernel_rfl) (by kernel_rfl) ?_
      try simp (disch := first | omega | (simp only [ints_length, List.length_replicate, List.length_set, stpL_length]; done) | (simp only [ints_length, List.length_replicate, List.length_set, stpL_length]; omega)) only [Sall,evalOp,init,binE,binI,unE,convE,okNil,builtE,gv,TD.isAgg,resV,↓reduceIte,Nat.reduceEqDiff,reduceCtorEq,Nat.reduceAdd,Nat.reduceMul,Nat.reduceLeDiff,quietOp,blindOp,Int.reduceEq,Int.reduceLT,Int.reduceLE,Nat.reduceLT,ti2,ti3,ti4,ti45,ti46,ti38,ti25,ti30,ti22,ti32,ti24,ti95,ti172,ti169,ti165,ti166,ti65,ti143,ti87, h6, h5, h0, h1, hr, ea, ec, Int.toNat_natCast, g0, g1, w64]
      (repeat refine And.intro (by omega) ?_)
      refine hmod.to ?_
      cases hct : ((stpL n y).take a).contains e with
      | true =>
        rw [hct] at g2
        try simp (disch := first | omega | (simp only [ints_length, List.length_replicate, List.length_set, stpL_length]; done) | (simp only [ints_length, List.length_replicate, List.length_set, stpL_length]; omega)) only [Sall,evalOp,init,binE,binI,unE,convE,okNil,builtE,gv,TD.isAgg,resV,↓reduceIte,Nat.reduceEqDiff,reduceCtorEq,Nat.reduceAdd,Nat.reduceMul,Nat.reduceLeDiff,quietOp,blindOp,Int.reduceEq,Int.reduceLT,Int.reduceLE,Nat.reduceLT,ti2,ti3,ti4,ti45,ti46,ti38,ti25,ti30,ti22,ti32,ti24,ti95,ti172,ti169,ti165,ti166,ti65,ti143,ti87, h6, h5, h0, h1, hrow, g2, w64]
        exact ⟨.inr (.inr (LE.refl _)), hsr, (hbad hct).symm, up⟩
      | false =>
        rw [hct] at g2
        try simp (disch := first | omega | (simp only [ints_length, List.length_replicate, List.length_set, stpL_length]; done) | (simp only [ints_length, List.length_replicate, List.length_set, stpL_length]; omega)) only [Sall,evalOp,init,binE,binI,unE,convE,okNil,builtE,gv,TD.isAgg,resV,↓reduceIte,Nat.reduceEqDiff,reduceCtorEq,Nat.reduceAdd,Nat.reduceMul,Nat.reduceLeDiff,quietOp,blindOp,Int.reduceEq,Int.reduceLT,Int.reduceLE,Nat.reduceLT,ti2,ti3,ti4,ti45,ti46,ti38,ti25,ti30,ti22,ti32,ti24,ti95,ti172,ti169,ti165,ti166,ti65,ti143,ti87, h6, h5, h0, h1, hrow, g2, g3, w64]
        refine ⟨.inr (.inr (LE.refl _)), hsr, hsr, by rw [bools_length, metL_length]; omega, y.length - 1 - (a + 1), by omega, a + 1, rfl, by omega, by omega, hnx, fun i hi => by rw [if_neg (by omega)]; exact hrows i hi, by rw [htk], ?_⟩
        rw [htk]
        exact nodup_snoc.2 ⟨hnd, fun hm => by rw [List.contains_iff_mem.2 hm] at hct; cases hct⟩
    · have ha : a = y.length - 1 := by omega
      subst ha
      rw [← hsl, List.take_length] at hnd
      have e : stpB n y = true := decide_eq_true hnd
      try simp (disch := first | omega | (simp only [ints_length, List.length_replicate, List.length_set, stpL_length]; done) | (simp only [ints_length, List.length_replicate, List.length_set, stpL_length]; omega)) only [Sall,evalOp,init,binE,binI,unE,convE,okNil,builtE,gv,TD.isAgg,resV,↓reduceIte,Nat.reduceEqDiff,reduceCtorEq,Nat.reduceAdd,Nat.reduceMul,Nat.reduceLeDiff,quietOp,blindOp,Int.reduceEq,Int.reduceLT,Int.reduceLE,Nat.reduceLT,ti2,ti3,ti4,ti45,ti46,ti38,ti25,ti30,ti22,ti32,ti24,ti95,ti172,ti169,ti165,ti166,ti65,ti143,ti87, e]
      exact up
/-- What IsStepSequence answers. -/
def isqB (y : List Int) : Bool := listB y && stpB y.length y
def isqC (y : List Int) : Int := if listB y = true then 0 else 2

theorem IsStepSequence_c (v : Value) (n : Nat) (y : List Int) (H : AH) (hv : Rd 1 H v n y) (hy : n ≤ 4294967296) :
    ACalls Try.prog 55 [v] H (is (.tuple #[.bool (isqB y), .int .i64 (isqC y)]) H) := by
  have e := hv.lenK1
  subst e
  refine acalls_up (by simp [flat, Abs.scal]) (ACalls.wf (by kernel_rfl) fun hs => acalls_of_awp [.tmp 2, .tmp 3] Try.func55 (by kernel_rfl) rfl rfl (Nat.le_of_ble_eq_true rfl) (by kernel_rfl) ?_)
  try simp (disch := first | omega | (simp only [ints_length, List.length_replicate, List.length_set, stpL_length]; done) | (simp only [ints_length, List.length_replicate, List.length_set, stpL_length]; omega)) only [Sall,evalOp,init,binE,binI,unE,convE,okNil,builtE,gv,TD.isAgg,resV,↓reduceIte,Nat.reduceEqDiff,reduceCtorEq,Nat.reduceAdd,Nat.reduceMul,Nat.reduceLeDiff,quietOp,blindOp,Int.reduceEq,Int.reduceLT,Int.reduceLE,Nat.reduceLT,ti2,ti3,ti4,ti45,ti46,ti38,ti25,ti30,ti22,ti32,ti24,ti95,ti172,ti169,ti165,ti166,ti65,ti143,ti87, true_and]
  refine (isList_c v y H hv hy).to ?_
  unfold isqB isqC
  cases hb : listB y with
  | false =>
    try simp (disch := first | omega | (simp only [ints_length, List.length_replicate, List.length_set, stpL_length]; done) | (simp only [ints_length, List.length_replicate, List.length_set, stpL_length]; omega)) only [Sall,evalOp,init,binE,binI,unE,convE,okNil,builtE,gv,TD.isAgg,resV,↓reduceIte,Nat.reduceEqDiff,reduceCtorEq,Nat.reduceAdd,Nat.reduceMul,Nat.reduceLeDiff,quietOp,blindOp,Int.reduceEq,Int.reduceLT,Int.reduceLE,Nat.reduceLT,ti2,ti3,ti4,ti45,ti46,ti38,ti25,ti30,ti22,ti32,ti24,ti95,ti172,ti169,ti165,ti166,ti65,ti143,ti87, Bool.not_false, Bool.false_and]
    exact Up.refl _ _
  | true =>
    obtain ⟨hlen, hin, hnd⟩ := listB_at hb
    try simp (disch := first | omega | (simp only [ints_length, List.length_replicate, List.length_set, stpL_length]; done) | (simp only [ints_length, List.length_replicate, List.length_set, stpL_length]; omega)) only [Sall,evalOp,init,binE,binI,unE,convE,okNil,builtE,gv,TD.isAgg,resV,↓reduceIte,Nat.reduceEqDiff,reduceCtorEq,Nat.reduceAdd,Nat.reduceMul,Nat.reduceLeDiff,quietOp,blindOp,Int.reduceEq,Int.reduceLT,Int.reduceLE,Nat.reduceLT,ti2,ti3,ti4,ti45,ti46,ti38,ti25,ti30,ti22,ti32,ti24,ti95,ti172,ti169,ti165,ti166,ti65,ti143,ti87, Bool.not_true]
    refine (size_c v y H hv hy).to ?_
    try simp (disch := first | omega | (simp only [ints_length, List.length_replicate, List.length_set, stpL_length]; done) | (simp only [ints_length, List.length_replicate, List.length_set, stpL_length]; omega)) only [Sall,evalOp,init,binE,binI,unE,convE,okNil,builtE,gv,TD.isAgg,resV,↓reduceIte,Nat.reduceEqDiff,reduceCtorEq,Nat.reduceAdd,Nat.reduceMul,Nat.reduceLeDiff,quietOp,blindOp,Int.reduceEq,Int.reduceLT,Int.reduceLE,Nat.reduceLT,ti2,ti3,ti4,ti45,ti46,ti38,ti25,ti30,ti22,ti32,ti24,ti95,ti172,ti169,ti165,ti166,ti65,ti143,ti87, true_and]
    refine (steps_c y.length (by omega) v y H hv (by omega) hin).mono ?_
    rintro u H1 ⟨up1, hf⟩
    have hsl := stpL_length y.length y
    refine Holds.mp ?_
    try simp (disch := first | omega | (simp only [ints_length, List.length_replicate, List.length_set, stpL_length]; done) | (simp only [ints_length, List.length_replicate, List.length_set, stpL_length]; omega)) only [Sall,evalOp,init,binE,binI,unE,convE,okNil,builtE,gv,TD.isAgg,resV,↓reduceIte,Nat.reduceEqDiff,reduceCtorEq,Nat.reduceAdd,Nat.reduceMul,Nat.reduceLeDiff,quietOp,blindOp,Int.reduceEq,Int.reduceLT,Int.reduceLE,Nat.reduceLT,ti2,ti3,ti4,ti45,ti46,ti38,ti25,ti30,ti22,ti32,ti24,ti95,ti172,ti169,ti165,ti166,ti65,ti143,ti87, true_and]
    refine (areDifferent_c u (stpL y.length y) H1 hf.rd (by omega)).to ?_
    rw [diffB_steps hin hnd]
    try simp (disch := first | omega | (simp only [ints_length, List.length_replicate, List.length_set, stpL_length]; done) | (simp only [ints_length, List.length_replicate, List.length_set, stpL_length]; omega)) only [Sall,evalOp,init,binE,binI,unE,convE,okNil,builtE,gv,TD.isAgg,resV,↓reduceIte,Nat.reduceEqDiff,reduceCtorEq,Nat.reduceAdd,Nat.reduceMul,Nat.reduceLeDiff,quietOp,blindOp,Int.reduceEq,Int.reduceLT,Int.reduceLE,Nat.reduceLT,ti2,ti3,ti4,ti45,ti46,ti38,ti25,ti30,ti22,ti32,ti24,ti95,ti172,ti169,ti165,ti166,ti65,ti143,ti87, Bool.true_and]
    exact up1

theorem specIsStepSequence_c (v : Value) (n : Nat) (y : List Int) (H : AH) (hv : Rd 1 H v n y) (hy : n ≤ 4294967296) :
    ACalls Try.prog 56 [v] H (is (.tuple #[.bool (isqB y), .int .i64 (isqC y)]) H) := by
  have e := hv.lenK1
  subst e
  refine acalls_of_awp [.tmp 2, .tmp 3] Try.func56 (by kernel_rfl) rfl rfl (Nat.le_of_ble_eq_true rfl) (by kernel_rfl) ?_
  try simp (disch := first | omega | (simp only [ints_length, List.length_replicate, List.length_set, stpL_length]; done) | (simp only [ints_length, List.length_replicate, List.length_set, stpL_length]; omega)) only [Sall,evalOp,init,binE,binI,unE,convE,okNil,builtE,gv,TD.isAgg,resV,↓reduceIte,Nat.reduceEqDiff,reduceCtorEq,Nat.reduceAdd,Nat.reduceMul,Nat.reduceLeDiff,quietOp,blindOp,Int.reduceEq,Int.reduceLT,Int.reduceLE,Nat.reduceLT,ti2,ti3,ti4,ti45,ti46,ti38,ti25,ti30,ti22,ti32,ti24,ti95,ti172,ti169,ti165,ti166,ti65,ti143,ti87, true_and]
  refine (l09List_c v y H hv hy).to ?_
  unfold isqB isqC
  cases hb : listB y with
  | false =>
    try simp (disch := first | omega | (simp only [ints_length, List.length_replicate, List.length_set, stpL_length]; done) | (simp only [ints_length, List.length_replicate, List.length_set, stpL_length]; omega)) only [Sall,evalOp,init,binE,binI,unE,convE,okNil,builtE,gv,TD.isAgg,resV,↓reduceIte,Nat.reduceEqDiff,reduceCtorEq,Nat.reduceAdd,Nat.reduceMul,Nat.reduceLeDiff,quietOp,blindOp,Int.reduceEq,Int.reduceLT,Int.reduceLE,Nat.reduceLT,ti2,ti3,ti4,ti45,ti46,ti38,ti25,ti30,ti22,ti32,ti24,ti95,ti172,ti169,ti165,ti166,ti65,ti143,ti87, Bool.not_false, Bool.false_and, is]
  | true =>
    obtain ⟨hlen, hin, hnd⟩ := listB_at hb
    try simp (disch := first | omega | (simp only [ints_length, List.length_replicate, List.length_set, stpL_length]; done) | (simp only [ints_length, List.length_replicate, List.length_set, stpL_length]; omega)) only [Sall,evalOp,init,binE,binI,unE,convE,okNil,builtE,gv,TD.isAgg,resV,↓reduceIte,Nat.reduceEqDiff,reduceCtorEq,Nat.reduceAdd,Nat.reduceMul,Nat.reduceLeDiff,quietOp,blindOp,Int.reduceEq,Int.reduceLT,Int.reduceLE,Nat.reduceLT,ti2,ti3,ti4,ti45,ti46,ti38,ti25,ti30,ti22,ti32,ti24,ti95,ti172,ti169,ti165,ti166,ti65,ti143,ti87, Bool.not_true, builtE, hv.len]
    refine (l09Step_c y.length (by omega) v y H hv (by omega) hin).to ?_
    try simp (disch := first | omega | (simp only [ints_length, List.length_replicate, List.length_set, stpL_length]; done) | (simp only [ints_length, List.length_replicate, List.length_set, stpL_length]; omega)) only [Sall,evalOp,init,binE,binI,unE,convE,okNil,builtE,gv,TD.isAgg,resV,↓reduceIte,Nat.reduceEqDiff,reduceCtorEq,Nat.reduceAdd,Nat.reduceMul,Nat.reduceLeDiff,quietOp,blindOp,Int.reduceEq,Int.reduceLT,Int.reduceLE,Nat.reduceLT,ti2,ti3,ti4,ti45,ti46,ti38,ti25,ti30,ti22,ti32,ti24,ti95,ti172,ti169,ti165,ti166,ti65,ti143,ti87, Bool.true_and, is]
end Go.Proofs.Ytgkmdfjjlghecaa.A
end

section
set_option linter.unusedSimpArgs false
set_option linter.unusedVariables false
set_option maxRecDepth 100000
set_option maxHeartbeats 2000000
namespace Go.Proofs.Ytgkmdfjjlghecaa.A
open Go Go.Abs Go.RowKit

theorem seqLat (n c : Nat) (h : c < n) : (seqL 0 n).getD c 0 = (c : Int) := by rw [seqL_getD _ _ _ h, Int.zero_add]

theorem cnt_le (n f : Nat) (y : List Int) (hn : n ≤ 8) (hf : f ≤ 8) : cntS n f y ≤ 16777216 := by
  unfold cntS
  have h1 := List.length_filter_le (stpB n) (ordN (seqL 0 n) f y)
  have h2 := seq_len_le (seqL 0 n) f y
  rw [seqL_length] at h2
  have h3 : n ^ f ≤ 16777216 := Nat.le_trans (Nat.pow_le_pow_left hn _) (Nat.le_trans (Nat.pow_le_pow_right (by omega) hf) (by decide))
  omega
theorem cntP_le (n f : Nat) (y : List Int) (c : Nat) (hn : n ≤ 8) (hf : f ≤ 7) (hc : c ≤ n) : cntP n f y c ≤ 16777216 := by
  have key : ∀ (l : List Int) (g : Int → List (List Int)), ((l.take c).flatMap g).Sublist (l.flatMap g) := fun l g => by
    have e : l.flatMap g = (l.take c).flatMap g ++ (l.drop c).flatMap g := by rw [← List.flatMap_append, List.take_append_drop]
    rw [e]; exact List.sublist_append_left _ _
  have h : cntP n f y c ≤ cntS n (f + 1) y := by
    unfold cntP cntS ordP
    exact List.Sublist.length_le (List.Sublist.filter _ (key (seqL 0 n) fun x => if y.contains x = true then [] else ordN (seqL 0 n) f (y ++ [x])))
  have := cnt_le n (f + 1) y hn (by omega)
  omega

theorem l09Count_c (n : Nat) (hn : 1 ≤ n ∧ n ≤ 8) : ∀ (fuel : Nat) (y : List Int) (v : Value) (lo0 hi0 : Nat) (H : AH), fuel + y.length = n → 0 < y.length → (∀ x ∈ y, 0 ≤ x ∧ x < n) → stpB n y = true → Fr 1 2 lo0 hi0 H v y.length y → lo0 ≤ hi0 → hi0 ≤ H.next →
    ACalls Try.prog 145 [.int .i64 n, v] H (is (.int .i64 (cntS n fuel y)) H) := by
  intro fuel
  induction fuel with
  | zero =>
    intro y v lo0 hi0 H hlen hpos hin hst hfr hlh hhi
    refine acalls_of_awp [.tmp 4] Try.func145 (by kernel_rfl) rfl rfl (Nat.le_of_ble_eq_true rfl) (by kernel_rfl) ?_
    have e1 : ((y.length : Int) == (n : Int)) = true := by rw [show y.length = n by omega]; exact beq_self_eq_true _
    rw [cntS_zero n y hst]
    try simp (disch := first | omega | (simp only [ints_length, List.length_replicate, List.length_set, stpL_length]; done) | (simp only [ints_length, List.length_replicate, List.length_set, stpL_length]; omega)) only [Sall,evalOp,init,binE,binI,unE,convE,okNil,builtE,gv,TD.isAgg,resV,↓reduceIte,Nat.reduceEqDiff,reduceCtorEq,Nat.reduceAdd,Nat.reduceMul,Nat.reduceLeDiff,quietOp,blindOp,Int.reduceEq,Int.reduceLT,Int.reduceLE,Nat.reduceLT,ti2,ti3,ti4,ti45,ti46,ti38,ti25,ti30,ti22,ti32,ti24,ti95,ti172,ti169,ti165,ti166,ti65,ti143,ti87, builtE, hfr.rd.len, e1, is]
    rfl
  | succ f ih =>
    intro y v lo0 hi0 H hlen hpos hin hst hfr hlh hhi
    refine acalls_up rfl (ACalls.wf (by kernel_rfl) fun hs => acalls_of_awp [.tmp 4] Try.func145 (by kernel_rfl) rfl rfl (Nat.le_of_ble_eq_true rfl) (by kernel_rfl) ?_)
    have e1 : ((y.length : Int) == (n : Int)) = false := by rw [beq_eq_false_iff_ne]; omega
    try simp (disch := first | omega | (simp only [ints_length, List.length_replicate, List.length_set, stpL_length]; done) | (simp only [ints_length, List.length_replicate, List.length_set, stpL_length]; omega)) only [Sall,evalOp,init,binE,binI,unE,convE,okNil,builtE,gv,TD.isAgg,resV,↓reduceIte,Nat.reduceEqDiff,reduceCtorEq,Nat.reduceAdd,Nat.reduceMul,Nat.reduceLeDiff,quietOp,blindOp,Int.reduceEq,Int.reduceLT,Int.reduceLE,Nat.reduceLT,ti2,ti3,ti4,ti45,ti46,ti38,ti25,ti30,ti22,ti32,ti24,ti95,ti172,ti169,ti165,ti166,ti65,ti143,ti87, builtE, hfr.rd.len, e1]
    refine awp_loop (fun m t H' => ∃ c : Nat, m = n - c ∧ c ≤ n ∧ t 6 = .int .i64 c ∧ t 5 = .int .i64 (cntP n f y c) ∧ t 0 = .int .i64 n ∧ t 1 = v ∧ Up H.next H H') n ?_ ?_
    · refine ⟨0, by omega, by omega, ?_⟩
      try simp (disch := first | omega | (simp only [ints_length, List.length_replicate, List.length_set, stpL_length]; done) | (simp only [ints_length, List.length_replicate, List.length_set, stpL_length]; omega)) only [Sall,evalOp,init,binE,binI,unE,convE,okNil,builtE,gv,TD.isAgg,resV,↓reduceIte,Nat.reduceEqDiff,reduceCtorEq,Nat.reduceAdd,Nat.reduceMul,Nat.reduceLeDiff,quietOp,blindOp,Int.reduceEq,Int.reduceLT,Int.reduceLE,Nat.reduceLT,ti2,ti3,ti4,ti45,ti46,ti38,ti25,ti30,ti22,ti32,ti24,ti95,ti172,ti169,ti165,ti166,ti65,ti143,ti87, Int.natCast_zero, cntP_zero]
      exact Up.refl _ _
    · rintro m t H' ⟨c, hm, hcn, h6, h5, h0, h1, hup⟩
      have hup1 := hup.next
      try simp (disch := first | omega | (simp only [ints_length, List.length_replicate, List.length_set, stpL_length]; done) | (simp only [ints_length, List.length_replicate, List.length_set, stpL_length]; omega)) only [Sall,evalOp,init,binE,binI,unE,convE,okNil,builtE,gv,TD.isAgg,resV,↓reduceIte,Nat.reduceEqDiff,reduceCtorEq,Nat.reduceAdd,Nat.reduceMul,Nat.reduceLeDiff,quietOp,blindOp,Int.reduceEq,Int.reduceLT,Int.reduceLE,Nat.reduceLT,ti2,ti3,ti4,ti45,ti46,ti38,ti25,ti30,ti22,ti32,ti24,ti95,ti172,ti169,ti165,ti166,ti65,ti143,ti87, h6, h0]
      refine condC_dec (fun h => ?_) (fun h => ?_)
      · have hfy : Fr 1 2 lo0 hi0 H' v y.length y := hfr.same fun i _ hi => hup.row i (by omega)
        try simp (disch := first | omega | (simp only [ints_length, List.length_replicate, List.length_set, stpL_length]; done) | (simp only [ints_length, List.length_replicate, List.length_set, stpL_length]; omega)) only [Sall,evalOp,init,binE,binI,unE,convE,okNil,builtE,gv,TD.isAgg,resV,↓reduceIte,Nat.reduceEqDiff,reduceCtorEq,Nat.reduceAdd,Nat.reduceMul,Nat.reduceLeDiff,quietOp,blindOp,Int.reduceEq,Int.reduceLT,Int.reduceLE,Nat.reduceLT,ti2,ti3,ti4,ti45,ti46,ti38,ti25,ti30,ti22,ti32,ti24,ti95,ti172,ti169,ti165,ti166,ti65,ti143,ti87, h6, h0, h1, h5]
        refine awp_loop (fun z t H2 => ∃ i : Nat, z = y.length - i ∧ i ≤ y.length ∧ t 8 = .int .i64 i ∧ t 7 = .bool ((List.range i).any fun j => y.getD j 0 == (c : Int)) ∧ t 6 = .int .i64 c ∧ t 5 = .int .i64 (cntP n f y c) ∧ t 0 = .int .i64 n ∧ t 1 = v ∧ H2 = H') y.length ?_ ?_
        · refine ⟨0, by omega, by omega, ?_⟩
          try simp (disch := first | omega | (simp only [ints_length, List.length_replicate, List.length_set, stpL_length]; done) | (simp only [ints_length, List.length_replicate, List.length_set, stpL_length]; omega)) only [Sall,evalOp,init,binE,binI,unE,convE,okNil,builtE,gv,TD.isAgg,resV,↓reduceIte,Nat.reduceEqDiff,reduceCtorEq,Nat.reduceAdd,Nat.reduceMul,Nat.reduceLeDiff,quietOp,blindOp,Int.reduceEq,Int.reduceLT,Int.reduceLE,Nat.reduceLT,ti2,ti3,ti4,ti45,ti46,ti38,ti25,ti30,ti22,ti32,ti24,ti95,ti172,ti169,ti165,ti166,ti65,ti143,ti87, Int.natCast_zero, h6, h5, h0, h1, List.range_zero, List.any_nil]
        · rintro z t H2 ⟨i, hz, hiy, h8, h7, h6, h5, h0, h1, rfl⟩
          try simp (disch := first | omega | (simp only [ints_length, List.length_replicate, List.length_set, stpL_length]; done) | (simp only [ints_length, List.length_replicate, List.length_set, stpL_length]; omega)) only [Sall,evalOp,init,binE,binI,unE,convE,okNil,builtE,gv,TD.isAgg,resV,↓reduceIte,Nat.reduceEqDiff,reduceCtorEq,Nat.reduceAdd,Nat.reduceMul,Nat.reduceLeDiff,quietOp,blindOp,Int.reduceEq,Int.reduceLT,Int.reduceLE,Nat.reduceLT,ti2,ti3,ti4,ti45,ti46,ti38,ti25,ti30,ti22,ti32,ti24,ti95,ti172,ti169,ti165,ti166,ti65,ti143,ti87, h8, h1, builtE, hfy.rd.len]
          refine condC_dec (fun hh => ?_) (fun hh => ?_)
          · obtain ⟨i7, o7, u7, c7, r7, rfl, hr7, hc7, hs7, hg7⟩ := hfy.rd.get (by omega)
            have g1 := hs7 i (by omega)
            have hra : ((List.range (i + 1)).any fun j => y.getD j 0 == (c : Int)) = (((List.range i).any fun j => y.getD j 0 == (c : Int)) || (y.getD i 0 == (c : Int))) := by rw [List.range_succ, List.any_append]; simp
            cases hk : ((List.range i).any fun j => y.getD j 0 == (c : Int)) with
            | true =>
              rw [hk] at h7
              rw [hk, Bool.true_or] at hra
              try simp (disch := first | omega | (simp only [ints_length, List.length_replicate, List.length_set, stpL_length]; done) | (simp only [ints_length, List.length_replicate, List.length_set, stpL_length]; omega)) only [Sall,evalOp,init,binE,binI,unE,convE,okNil,builtE,gv,TD.isAgg,resV,↓reduceIte,Nat.reduceEqDiff,reduceCtorEq,Nat.reduceAdd,Nat.reduceMul,Nat.reduceLeDiff,quietOp,blindOp,Int.reduceEq,Int.reduceLT,Int.reduceLE,Nat.reduceLT,ti2,ti3,ti4,ti45,ti46,ti38,ti25,ti30,ti22,ti32,ti24,ti95,ti172,ti169,ti165,ti166,ti65,ti143,ti87, h8, h7, h6, h5, h0, h1, w64]
              exact ⟨y.length - (i + 1), by omega, i + 1, rfl, by omega, rfl, by rw [hra]⟩
            | false =>
              rw [hk] at h7
              rw [hk, Bool.false_or] at hra
              try simp (disch := first | omega | (simp only [ints_length, List.length_replicate, List.length_set, stpL_length]; done) | (simp only [ints_length, List.length_replicate, List.length_set, stpL_length]; omega)) only [Sall,evalOp,init,binE,binI,unE,convE,okNil,builtE,gv,TD.isAgg,resV,↓reduceIte,Nat.reduceEqDiff,reduceCtorEq,Nat.reduceAdd,Nat.reduceMul,Nat.reduceLeDiff,quietOp,blindOp,Int.reduceEq,Int.reduceLT,Int.reduceLE,Nat.reduceLT,ti2,ti3,ti4,ti45,ti46,ti38,ti25,ti30,ti22,ti32,ti24,ti95,ti172,ti169,ti165,ti166,ti65,ti143,ti87, h8, h7, h6, h5, h0, h1, hr7, g1, w64]
              (repeat refine And.intro (by omega) ?_)
              exact ⟨y.length - (i + 1), by omega, i + 1, rfl, by omega, rfl, by rw [hra]⟩
          · have hiy2 : i = y.length := by omega
            subst hiy2
            rw [any_contains] at h7
            have zz : zeros 1 [.int .i64 0] = [.int .i64 0] := rfl
            try simp (disch := first | omega | (simp only [ints_length, List.length_replicate, List.length_set, stpL_length]; done) | (simp only [ints_length, List.length_replicate, List.length_set, stpL_length]; omega)) only [Sall,evalOp,init,binE,binI,unE,convE,okNil,builtE,gv,TD.isAgg,resV,↓reduceIte,Nat.reduceEqDiff,reduceCtorEq,Nat.reduceAdd,Nat.reduceMul,Nat.reduceLeDiff,quietOp,blindOp,Int.reduceEq,Int.reduceLT,Int.reduceLE,Nat.reduceLT,ti2,ti3,ti4,ti45,ti46,ti38,ti25,ti30,ti22,ti32,ti24,ti95,ti172,ti169,ti165,ti166,ti65,ti143,ti87, h7, h6, h5, h0, h1]
            refine (l01Own_c v y H2 (Cp.of_fr hfy) (by omega)).mono ?_
            rintro w H3 ⟨up3, hw⟩
            have n3 := up3.next
            refine Holds.mp ?_
            try simp (disch := first | omega | (simp only [ints_length, List.length_replicate, List.length_set, stpL_length]; done) | (simp only [ints_length, List.length_replicate, List.length_set, stpL_length]; omega)) only [Sall,evalOp,init,binE,binI,unE,convE,okNil,builtE,gv,TD.isAgg,resV,↓reduceIte,Nat.reduceEqDiff,reduceCtorEq,Nat.reduceAdd,Nat.reduceMul,Nat.reduceLeDiff,quietOp,blindOp,Int.reduceEq,Int.reduceLT,Int.reduceLE,Nat.reduceLT,ti2,ti3,ti4,ti45,ti46,ti38,ti25,ti30,ti22,ti32,ti24,ti95,ti172,ti169,ti165,ti166,ti65,ti143,ti87, h7, h6, h5, h0, h1, zz, slCells]
            obtain ⟨H4, e4⟩ : ∃ H4, H4 = H3.push ⟨2, true, [.int .i64 c]⟩ := ⟨_, rfl⟩
            have n4 : H4.next = H3.next + 1 := by rw [e4]; rfl
            have s4 : ∀ i, i < H3.next → H4.row i = H3.row i := fun i hi => by rw [e4, AH.push_row, if_neg (by omega)]
            rw [← e4]
            clear e4
            refine appE_fr (k := 1) (lo := H2.next) (hi := H3.next) (l := y) (m := [(c : Int)]) (hw.same fun i _ hi => s4 i (by omega)) rfl (by omega) rfl (by omega) (by decide) (by omega) (by omega) ?_
            intro v' H5 n5 s5 f5
            have hl1 : (y ++ [(c : Int)]).length = y.length + 1 := by simp
            rw [← hl1] at f5
            have old : ∀ i, i < H2.next → H5.row i = H2.row i := fun i hi => by rw [s5 i (by omega) (by omega), s4 i (by omega), up3.row i hi]
            have up5 : Up H.next H H5 := ⟨by omega, fun i hi => by rw [old i (by omega), hup.row i hi]⟩
            have hsucc := cntP_succ n f y c (by omega) hpos
            have hin2 : ∀ x ∈ y ++ [(c : Int)], 0 ≤ x ∧ x < n := fun x hx => (List.mem_append.1 hx).elim (hin x) fun h => by rw [List.mem_singleton] at h; omega
            cases hct : y.contains (c : Int) with
            | true =>
              rw [hct] at h7 hsucc
              rw [if_neg (by simp), Nat.add_zero] at hsucc
              try simp (disch := first | omega | (simp only [ints_length, List.length_replicate, List.length_set, stpL_length]; done) | (simp only [ints_length, List.length_replicate, List.length_set, stpL_length]; omega)) only [Sall,evalOp,init,binE,binI,unE,convE,okNil,builtE,gv,TD.isAgg,resV,↓reduceIte,Nat.reduceEqDiff,reduceCtorEq,Nat.reduceAdd,Nat.reduceMul,Nat.reduceLeDiff,quietOp,blindOp,Int.reduceEq,Int.reduceLT,Int.reduceLE,Nat.reduceLT,ti2,ti3,ti4,ti45,ti46,ti38,ti25,ti30,ti22,ti32,ti24,ti95,ti172,ti169,ti165,ti166,ti65,ti143,ti87, h7, Bool.not_true, h6, h5, h0, h1, w64]
              refine ⟨n - (c + 1), by omega, c + 1, rfl, by omega, rfl, by rw [hsucc]; rfl, up5⟩
            | false =>
              rw [hct] at h7 hsucc
              try simp (disch := first | omega | (simp only [ints_length, List.length_replicate, List.length_set, stpL_length]; done) | (simp only [ints_length, List.length_replicate, List.length_set, stpL_length]; omega)) only [Sall,evalOp,init,binE,binI,unE,convE,okNil,builtE,gv,TD.isAgg,resV,↓reduceIte,Nat.reduceEqDiff,reduceCtorEq,Nat.reduceAdd,Nat.reduceMul,Nat.reduceLeDiff,quietOp,blindOp,Int.reduceEq,Int.reduceLT,Int.reduceLE,Nat.reduceLT,ti2,ti3,ti4,ti45,ti46,ti38,ti25,ti30,ti22,ti32,ti24,ti95,ti172,ti169,ti165,ti166,ti65,ti143,ti87, h7, Bool.not_false, h6, h5, h0, h1]
              refine (l09Step_c n (by omega) v' _ H5 f5.rd (by omega) hin2).to ?_
              cases hst2 : stpB n (y ++ [(c : Int)]) with
              | false =>
                rw [hst2, if_neg (by simp), Nat.add_zero] at hsucc
                try simp (disch := first | omega | (simp only [ints_length, List.length_replicate, List.length_set, stpL_length]; done) | (simp only [ints_length, List.length_replicate, List.length_set, stpL_length]; omega)) only [Sall,evalOp,init,binE,binI,unE,convE,okNil,builtE,gv,TD.isAgg,resV,↓reduceIte,Nat.reduceEqDiff,reduceCtorEq,Nat.reduceAdd,Nat.reduceMul,Nat.reduceLeDiff,quietOp,blindOp,Int.reduceEq,Int.reduceLT,Int.reduceLE,Nat.reduceLT,ti2,ti3,ti4,ti45,ti46,ti38,ti25,ti30,ti22,ti32,ti24,ti95,ti172,ti169,ti165,ti166,ti65,ti143,ti87, h6, h5, h0, h1, w64]
                refine ⟨n - (c + 1), by omega, c + 1, rfl, by omega, rfl, by rw [hsucc]; rfl, up5⟩
              | true =>
                rw [hst2, if_pos ⟨rfl, rfl⟩] at hsucc
                have b1 := cntP_le n f y (c + 1) hn.2 (by omega) (by omega)
                try simp (disch := first | omega | (simp only [ints_length, List.length_replicate, List.length_set, stpL_length]; done) | (simp only [ints_length, List.length_replicate, List.length_set, stpL_length]; omega)) only [Sall,evalOp,init,binE,binI,unE,convE,okNil,builtE,gv,TD.isAgg,resV,↓reduceIte,Nat.reduceEqDiff,reduceCtorEq,Nat.reduceAdd,Nat.reduceMul,Nat.reduceLeDiff,quietOp,blindOp,Int.reduceEq,Int.reduceLT,Int.reduceLE,Nat.reduceLT,ti2,ti3,ti4,ti45,ti46,ti38,ti25,ti30,ti22,ti32,ti24,ti95,ti172,ti169,ti165,ti166,ti65,ti143,ti87, h6, h5, h0, h1, w64]
                refine (ih (y ++ [(c : Int)]) v' H4.next (H4.next + 1) H5 (by omega) (by omega) hin2 hst2 f5 (by omega) (by omega)).to ?_
                try simp (disch := first | omega | (simp only [ints_length, List.length_replicate, List.length_set, stpL_length]; done) | (simp only [ints_length, List.length_replicate, List.length_set, stpL_length]; omega)) only [Sall,evalOp,init,binE,binI,unE,convE,okNil,builtE,gv,TD.isAgg,resV,↓reduceIte,Nat.reduceEqDiff,reduceCtorEq,Nat.reduceAdd,Nat.reduceMul,Nat.reduceLeDiff,quietOp,blindOp,Int.reduceEq,Int.reduceLT,Int.reduceLE,Nat.reduceLT,ti2,ti3,ti4,ti45,ti46,ti38,ti25,ti30,ti22,ti32,ti24,ti95,ti172,ti169,ti165,ti166,ti65,ti143,ti87, h6, h5, h0, h1, w64]
                refine ⟨n - (c + 1), by omega, c + 1, rfl, by omega, rfl, by rw [hsucc]; omega, up5⟩
      · have hc : c = n := by omega
        subst hc
        rw [cntP_all] at h5
        try simp (disch := first | omega | (simp only [ints_length, List.length_replicate, List.length_set, stpL_length]; done) | (simp only [ints_length, List.length_replicate, List.length_set, stpL_length]; omega)) only [Sall,evalOp,init,binE,binI,unE,convE,okNil,builtE,gv,TD.isAgg,resV,↓reduceIte,Nat.reduceEqDiff,reduceCtorEq,Nat.reduceAdd,Nat.reduceMul,Nat.reduceLeDiff,quietOp,blindOp,Int.reduceEq,Int.reduceLT,Int.reduceLE,Nat.reduceLT,ti2,ti3,ti4,ti45,ti46,ti38,ti25,ti30,ti22,ti32,ti24,ti95,ti172,ti169,ti165,ti166,ti65,ti143,ti87, h5]
        exact hup
theorem wrap_form (x : Int) : ∃ k : Int, IntKind.i64.wrap x = x - k * 18446744073709551616 := by
  have h := Int.emod_add_mul_ediv x 18446744073709551616
  unfold IntKind.wrap
  simp only [IntKind.bits, IntKind.signed]
  simp only [Bool.true_and, decide_eq_true_eq, Nat.reduceSub, Int.reducePow]
  split
  · exact ⟨x / 18446744073709551616 + 1, by omega⟩
  · exact ⟨x / 18446744073709551616, by omega⟩
theorem wrap_up (c : Nat) : IntKind.i64.wrap (IntKind.i64.wrap (c : Int) + 1) = IntKind.i64.wrap ((c + 1 : Nat) : Int) := by
  obtain ⟨k1, h1⟩ := wrap_form (c : Int)
  obtain ⟨k2, h2⟩ := wrap_form (IntKind.i64.wrap (c : Int) + 1)
  obtain ⟨k3, h3⟩ := wrap_form ((c + 1 : Nat) : Int)
  have r2 := wrap_range (IntKind.i64.wrap (c : Int) + 1)
  have r3 := wrap_range ((c + 1 : Nat) : Int)
  omega
def cntF (n : Nat) (es : List (List Int)) : Nat := (es.filter (stpB n)).length
theorem cntF_snoc (n : Nat) (es : List (List Int)) (y : List Int) : cntF n (es ++ [y]) = cntF n es + (if stpB n y = true then 1 else 0) := by
  unfold cntF
  rw [List.filter_append, List.length_append]
  cases h : stpB n y <;> simp [h]

/-- What is known while orders are counted. -/
def CsS (n : Nat) (mc : Nat) (Hc : AH) (es : List (List Int)) (H : AH) : Prop :=
  Hc.next ≤ H.next ∧ (∀ i, i < Hc.next → ¬ i = mc → H.row i = Hc.row i) ∧ H.row mc = some ⟨2, true, [.int .i64 (IntKind.i64.wrap (cntF n es))]⟩

theorem csClosure_c (n : Nat) (hn : 1 ≤ n ∧ n ≤ 8) (nc mc : Nat) (Hc : AH) (hnc : Hc.row nc = some ⟨2, true, [.int .i64 n]⟩) (hncn : nc < Hc.next) (hne : ¬ nc = mc) (hmc : mc < Hc.next) (es : List (List Int)) (y : List Int) (v : Value) (H : AH) (hS : CsS n mc Hc es H)
    (hy : (∀ x ∈ y, 0 ≤ x ∧ x < n) ∧ y.Nodup) (hyl : y.length ≤ 40) (hv : Cp H v y) :
    ACalls Try.prog 144 [v, .pointer (some ⟨nc, 0, none⟩), .pointer (some ⟨mc, 0, none⟩)] H (fun r H' => r = .bool true ∧ CsS n mc Hc (es ++ [y]) H' ∧ H.next ≤ H'.next ∧ ∀ i, i < H.next → ¬ i = mc → H'.row i = H.row i) := by
  refine ACalls.wf (by kernel_rfl) fun hs => acalls_of_awp [.tmp 4] Try.func144 (by kernel_rfl) rfl rfl (Nat.le_of_ble_eq_true rfl) (by kernel_rfl) ?_
  obtain ⟨hnx, hrow, hcell⟩ := hS
  have hnc' : H.row nc = some ⟨2, true, [.int .i64 n]⟩ := by rw [hrow _ hncn hne]; exact hnc
  have hsl := stpL_length n y
  have hsn := cntF_snoc n es y
  try simp (disch := first | omega | (simp only [ints_length, List.length_replicate, List.length_set, stpL_length]; done) | (simp only [ints_length, List.length_replicate, List.length_set, stpL_length]; omega)) only [Sall,evalOp,init,binE,binI,unE,convE,okNil,builtE,gv,TD.isAgg,resV,↓reduceIte,Nat.reduceEqDiff,reduceCtorEq,Nat.reduceAdd,Nat.reduceMul,Nat.reduceLeDiff,quietOp,blindOp,Int.reduceEq,Int.reduceLT,Int.reduceLE,Nat.reduceLT,ti2,ti3,ti4,ti45,ti46,ti38,ti25,ti30,ti22,ti32,ti24,ti95,ti172,ti169,ti165,ti166,ti65,ti143,ti87, hnc']
  refine (steps_c n (by omega) v y H hv.1 (by omega) hy.1).mono ?_
  rintro u H1 ⟨up1, hf1⟩
  have n1 := up1.next
  refine Holds.mp ?_
  try simp (disch := first | omega | (simp only [ints_length, List.length_replicate, List.length_set, stpL_length]; done) | (simp only [ints_length, List.length_replicate, List.length_set, stpL_length]; omega)) only [Sall,evalOp,init,binE,binI,unE,convE,okNil,builtE,gv,TD.isAgg,resV,↓reduceIte,Nat.reduceEqDiff,reduceCtorEq,Nat.reduceAdd,Nat.reduceMul,Nat.reduceLeDiff,quietOp,blindOp,Int.reduceEq,Int.reduceLT,Int.reduceLE,Nat.reduceLT,ti2,ti3,ti4,ti45,ti46,ti38,ti25,ti30,ti22,ti32,ti24,ti95,ti172,ti169,ti165,ti166,ti65,ti143,ti87, true_and]
  refine (areDifferent_c u (stpL n y) H1 hf1.rd (by omega)).to ?_
  rw [diffB_steps hy.1 hy.2]
  have hcell1 : H1.row mc = some ⟨2, true, [.int .i64 (IntKind.i64.wrap (cntF n es))]⟩ := by rw [up1.row _ (by omega)]; exact hcell
  cases hst : stpB n y with
  | true =>
    rw [hst, if_pos rfl] at hsn
    try simp (disch := first | omega | (simp only [ints_length, List.length_replicate, List.length_set, stpL_length]; done) | (simp only [ints_length, List.length_replicate, List.length_set, stpL_length]; omega)) only [Sall,evalOp,init,binE,binI,unE,convE,okNil,builtE,gv,TD.isAgg,resV,↓reduceIte,Nat.reduceEqDiff,reduceCtorEq,Nat.reduceAdd,Nat.reduceMul,Nat.reduceLeDiff,quietOp,blindOp,Int.reduceEq,Int.reduceLT,Int.reduceLE,Nat.reduceLT,ti2,ti3,ti4,ti45,ti46,ti38,ti25,ti30,ti22,ti32,ti24,ti95,ti172,ti169,ti165,ti166,ti65,ti143,ti87, hcell1, wrap_up]
    refine ⟨⟨by simp only [AH.setCells_next]; omega, fun i hi1 hi => by rw [AH.setCells_row, if_neg hi, up1.row i (by omega), hrow i hi1 hi], ?_⟩, by omega, fun i hi1 hi => by rw [if_neg hi, up1.row i hi1]⟩
    rw [AH.setCells_row, if_pos rfl, hcell1, hsn]; rfl
  | false =>
    rw [hst, if_neg (by simp), Nat.add_zero] at hsn
    try simp (disch := first | omega | (simp only [ints_length, List.length_replicate, List.length_set, stpL_length]; done) | (simp only [ints_length, List.length_replicate, List.length_set, stpL_length]; omega)) only [Sall,evalOp,init,binE,binI,unE,convE,okNil,builtE,gv,TD.isAgg,resV,↓reduceIte,Nat.reduceEqDiff,reduceCtorEq,Nat.reduceAdd,Nat.reduceMul,Nat.reduceLeDiff,quietOp,blindOp,Int.reduceEq,Int.reduceLT,Int.reduceLE,Nat.reduceLT,ti2,ti3,ti4,ti45,ti46,ti38,ti25,ti30,ti22,ti32,ti24,ti95,ti172,ti169,ti165,ti166,ti65,ti143,ti87, true_and]
    refine ⟨⟨by omega, fun i hi1 hi => by rw [up1.row i (by omega), hrow i hi1 hi], by rw [hsn]; exact hcell1⟩, by omega, fun i hi1 hi => up1.row i hi1⟩

/-- What CountStepSequences answers. -/
def cssN (q : Int) : Int := if 1 ≤ q ∧ q ≤ 8 then (cntS q.toNat (q.toNat - 1) [0] : Nat) else 0
def cssC (q : Int) : Int := if 1 ≤ q ∧ q ≤ 8 then 0 else 2

theorem stp_one (n : Nat) : stpB n [0] = true := by unfold stpB stpL; simp

theorem specCountStepSequences_c (q : Int) (H : AH) (hq : -9223372036854775808 ≤ q ∧ q ≤ 9223372036854775807) :
    ACalls Try.prog 68 [.int .i64 q] H (is (.tuple #[.int .i64 (cssN q), .int .i64 (cssC q)]) H) := by
  refine acalls_up (by simp [flat, Abs.scal]) (ACalls.wf (by kernel_rfl) fun hs => acalls_of_awp [.tmp 2, .tmp 3] Try.func68 (by kernel_rfl) rfl rfl (Nat.le_of_ble_eq_true rfl) (by kernel_rfl) ?_)
  try simp (disch := first | omega | (simp only [ints_length, List.length_replicate, List.length_set, stpL_length]; done) | (simp only [ints_length, List.length_replicate, List.length_set, stpL_length]; omega)) only [Sall,evalOp,init,binE,binI,unE,convE,okNil,builtE,gv,TD.isAgg,resV,↓reduceIte,Nat.reduceEqDiff,reduceCtorEq,Nat.reduceAdd,Nat.reduceMul,Nat.reduceLeDiff,quietOp,blindOp,Int.reduceEq,Int.reduceLT,Int.reduceLE,Nat.reduceLT,ti2,ti3,ti4,ti45,ti46,ti38,ti25,ti30,ti22,ti32,ti24,ti95,ti172,ti169,ti165,ti166,ti65,ti143,ti87, true_and]
  refine (l01In_c _ _ _ _).to ?_
  unfold cssN cssC
  by_cases h : 1 ≤ q ∧ q ≤ 8
  · obtain ⟨n, rfl⟩ : ∃ n : Nat, q = n := ⟨q.toNat, by omega⟩
    have zz : zeros 1 [.int .i64 0] = [.int .i64 0] := rfl
    rw [decide_eq_true h, if_pos h, if_pos h, Int.toNat_natCast]
    try simp (disch := first | omega | (simp only [ints_length, List.length_replicate, List.length_set, stpL_length]; done) | (simp only [ints_length, List.length_replicate, List.length_set, stpL_length]; omega)) only [Sall,evalOp,init,binE,binI,unE,convE,okNil,builtE,gv,TD.isAgg,resV,↓reduceIte,Nat.reduceEqDiff,reduceCtorEq,Nat.reduceAdd,Nat.reduceMul,Nat.reduceLeDiff,quietOp,blindOp,Int.reduceEq,Int.reduceLT,Int.reduceLE,Nat.reduceLT,ti2,ti3,ti4,ti45,ti46,ti38,ti25,ti30,ti22,ti32,ti24,ti95,ti172,ti169,ti165,ti166,ti65,ti143,ti87, Bool.not_true, zz, slCells]
    have hf : Fr 1 2 H.next (H.push ⟨2, true, [.int .i64 0]⟩).next (H.push ⟨2, true, [.int .i64 0]⟩) (.slice (some ⟨H.next, 0, some 1⟩) 1 1) 1 [0] := ⟨rfl, .inr ⟨H.next, Nat.le_refl _, Nat.lt_succ_self _, rfl, by rw [AH.push_row, if_pos rfl]; rfl⟩⟩
    have up : Up H.next H (H.push ⟨2, true, [.int .i64 0]⟩) := (Up.refl _ H).push (Nat.le_refl _) _
    refine (l09Count_c n (by omega) (n - 1) [0] _ _ _ _ (by simp; omega) (by simp) (by simp; omega) (stp_one n) hf (Nat.le_succ _) (Nat.le_refl _)).to ?_
    try simp (disch := first | omega | (simp only [ints_length, List.length_replicate, List.length_set, stpL_length]; done) | (simp only [ints_length, List.length_replicate, List.length_set, stpL_length]; omega)) only [Sall,evalOp,init,binE,binI,unE,convE,okNil,builtE,gv,TD.isAgg,resV,↓reduceIte,Nat.reduceEqDiff,reduceCtorEq,Nat.reduceAdd,Nat.reduceMul,Nat.reduceLeDiff,quietOp,blindOp,Int.reduceEq,Int.reduceLT,Int.reduceLE,Nat.reduceLT,ti2,ti3,ti4,ti45,ti46,ti38,ti25,ti30,ti22,ti32,ti24,ti95,ti172,ti169,ti165,ti166,ti65,ti143,ti87, true_and]
    exact up
  · rw [decide_eq_false h, if_neg h, if_neg h]
    try simp (disch := first | omega | (simp only [ints_length, List.length_replicate, List.length_set, stpL_length]; done) | (simp only [ints_length, List.length_replicate, List.length_set, stpL_length]; omega)) only [Sall,evalOp,init,binE,binI,unE,convE,okNil,builtE,gv,TD.isAgg,resV,↓reduceIte,Nat.reduceEqDiff,reduceCtorEq,Nat.reduceAdd,Nat.reduceMul,Nat.reduceLeDiff,quietOp,blindOp,Int.reduceEq,Int.reduceLT,Int.reduceLE,Nat.reduceLT,ti2,ti3,ti4,ti45,ti46,ti38,ti25,ti30,ti22,ti32,ti24,ti95,ti172,ti169,ti165,ti166,ti65,ti143,ti87, Bool.not_false]
    exact Up.refl _ _
theorem CountStepSequences_c (q : Int) (H : AH) (hq : -9223372036854775808 ≤ q ∧ q ≤ 9223372036854775807) :
    ACalls Try.prog 67 [.int .i64 q] H (is (.tuple #[.int .i64 (cssN q), .int .i64 (cssC q)]) H) := by
  refine acalls_up (by simp [flat, Abs.scal]) (ACalls.wf (by kernel_rfl) fun hs => acalls_of_awp [.tmp 2, .tmp 3] Try.func67 (by kernel_rfl) rfl rfl (Nat.le_of_ble_eq_true rfl) (by kernel_rfl) ?_)
  try simp (disch := first | omega | (simp only [ints_length, List.length_replicate, List.length_set, stpL_length]; done) | (simp only [ints_length, List.length_replicate, List.length_set, stpL_length]; omega)) only [Sall,evalOp,init,binE,binI,unE,convE,okNil,builtE,gv,TD.isAgg,resV,↓reduceIte,Nat.reduceEqDiff,reduceCtorEq,Nat.reduceAdd,Nat.reduceMul,Nat.reduceLeDiff,quietOp,blindOp,Int.reduceEq,Int.reduceLT,Int.reduceLE,Nat.reduceLT,ti2,ti3,ti4,ti45,ti46,ti38,ti25,ti30,ti22,ti32,ti24,ti95,ti172,ti169,ti165,ti166,ti65,ti143,ti87, true_and]
  refine (between_c _ _ _ _).to ?_
  unfold cssN cssC
  have zz : zeros 1 [.int .i64 0] = [.int .i64 0] := rfl
  by_cases h : 1 ≤ q ∧ q ≤ 8
  · obtain ⟨n, rfl⟩ : ∃ n : Nat, q = n := ⟨q.toNat, by omega⟩
    rw [decide_eq_true h, if_pos h, if_pos h, Int.toNat_natCast]
    have hn : 1 ≤ n ∧ n ≤ 8 := by omega
    try simp (disch := first | omega | (simp only [ints_length, List.length_replicate, List.length_set, stpL_length]; done) | (simp only [ints_length, List.length_replicate, List.length_set, stpL_length]; omega)) only [Sall,evalOp,init,binE,binI,unE,convE,okNil,builtE,gv,TD.isAgg,resV,↓reduceIte,Nat.reduceEqDiff,reduceCtorEq,Nat.reduceAdd,Nat.reduceMul,Nat.reduceLeDiff,quietOp,blindOp,Int.reduceEq,Int.reduceLT,Int.reduceLE,Nat.reduceLT,ti2,ti3,ti4,ti45,ti46,ti38,ti25,ti30,ti22,ti32,ti24,ti95,ti172,ti169,ti165,ti166,ti65,ti143,ti87, Bool.not_true, zz, slCells, w64]
    obtain ⟨H1, e1⟩ : ∃ H1, H1 = (((H.push ⟨2, true, [.int .i64 n]⟩).push ⟨2, true, [.int .i64 0]⟩).setCells (H.next + 1) [.int .i64 0]).push ⟨2, true, [.int .i64 0]⟩ := ⟨_, rfl⟩
    have up1 : Up H.next H H1 := by rw [e1]; exact ((((Up.refl _ H).push (by omega) _).push (by simp only [AH.push_next]; omega) _).set (by omega) _).push (by simp only [AH.push_next, AH.setCells_next]; omega) _
    have n1 : H1.next = H.next + 3 := by rw [e1]; rfl
    have r0 : H1.row H.next = some ⟨2, true, [.int .i64 n]⟩ := by rw [e1]; simp [AH.setCells_row, AH.setCells_next, AH.push_row, AH.push_next]; omega
    have r1 : H1.row (H.next + 1) = some ⟨2, true, [.int .i64 0]⟩ := by rw [e1]; simp [AH.setCells_row, AH.setCells_next, AH.push_row, AH.push_next]
    have r2 : H1.row (H.next + 2) = some ⟨2, true, [.int .i64 0]⟩ := by rw [e1]; simp [AH.setCells_row, AH.setCells_next, AH.push_row, AH.push_next]
    rw [← e1]
    clear e1
    refine (numbersFrom_c 0 ((n : Int) - 1) n (by omega) (by omega) (by omega) H1).sc.mono ?_
    rintro nv Hc ⟨⟨upc, hfc⟩, scc⟩
    have nc := upc.next
    have hnl : (seqL 0 n).length = n := seqL_length _ _
    have hc0 : Hc.row H.next = some ⟨2, true, [.int .i64 n]⟩ := by rw [upc.row _ (by omega), r0]
    have hc1 : Hc.row (H.next + 1) = some ⟨2, true, [.int .i64 0]⟩ := by rw [upc.row _ (by omega), r1]
    have hc2 : Hc.row (H.next + 2) = some ⟨2, true, [.int .i64 0]⟩ := by rw [upc.row _ (by omega), r2]
    have w0 : IntKind.i64.wrap ((cntF n [] : Nat) : Int) = 0 := by show IntKind.i64.wrap ((0 : Nat) : Int) = 0; decide
    refine Holds.mp ?_
    try simp (disch := first | omega | (simp only [ints_length, List.length_replicate, List.length_set, stpL_length]; done) | (simp only [ints_length, List.length_replicate, List.length_set, stpL_length]; omega)) only [Sall,evalOp,init,binE,binI,unE,convE,okNil,builtE,gv,TD.isAgg,resV,↓reduceIte,Nat.reduceEqDiff,reduceCtorEq,Nat.reduceAdd,Nat.reduceMul,Nat.reduceLeDiff,quietOp,blindOp,Int.reduceEq,Int.reduceLT,Int.reduceLE,Nat.reduceLT,ti2,ti3,ti4,ti45,ti46,ti38,ti25,ti30,ti22,ti32,ti24,ti95,ti172,ti169,ti165,ti166,ti65,ti143,ti87, List.mem_cons, List.not_mem_nil, or_false, forall_eq_or_imp, forall_eq, Array.size_empty]
    have hnvB : Rd 1 (Hc.drop (H.next + 1)) nv (seqL 0 n).length (seqL 0 n) := by
      rw [hnl]
      exact (hfc.same (H' := Hc.drop (H.next + 1)) fun i hi _ => by rw [AH.drop_row, if_neg (by omega)]).rd
    have hper : Per (H.next + 2) Hc (.slice (some ⟨H.next + 2, 0, some 1⟩) 1 1) [0] := Per.fr (ty := 2) (lo := H.next + 2) (hi := H.next + 3) ⟨rfl, .inr ⟨H.next + 2, by omega, by omega, rfl, hc2⟩⟩ (by omega) (by omega)
    refine (orders_c 144 [.pointer (some ⟨H.next, 0, none⟩), .pointer (some ⟨H.next + 1, 0, none⟩)] (fun _ => true) (fun y => (∀ x ∈ y, 0 ≤ x ∧ x < n) ∧ y.Nodup) (CsS n (H.next + 1) Hc) (H.next + 2) nv (seqL 0 n) (Hc.drop (H.next + 1)) hnvB (by omega) ?_ ?_ ?_ ?_ (n - 1) [0] [] (.slice (some ⟨H.next + 2, 0, some 1⟩) 1 1) Hc (by rw [hnl, List.length_singleton]; omega) ⟨Nat.le_refl _, fun i _ _ => rfl, by rw [w0]; exact hc1⟩ (by simp) (by omega) hper ⟨by simp; omega, by simp⟩).mono ?_
    · rintro es H' ⟨_, h2, _⟩ i r hir
      rw [AH.drop_row] at hir
      split at hir
      · cases hir
      · rename_i hne; rw [h2 i (scc _ _ hir) hne]; exact hir
    · rintro es Ha Hb ⟨a1, a2, a3⟩ hn2 hr2
      exact ⟨by omega, fun i hi1 hi => by rw [hr2 _ (by omega), a2 i hi1 hi], by rw [hr2 _ (by omega)]; exact a3⟩
    · rintro y x ⟨hy, hnd⟩ hx hct
      refine ⟨fun z hz => ?_, nodup_snoc.2 ⟨hnd, fun hm => by rw [List.contains_iff_mem.2 hm] at hct; cases hct⟩⟩
      rcases List.mem_append.1 hz with hz | hz
      · exact hy z hz
      · rw [List.mem_singleton] at hz
        subst hz
        have := (mem_seqL_iff 0 n _).1 hx
        omega
    · intro es y v Ha hS _ _ hyl hy hcp
      refine (csClosure_c n hn _ _ Hc hc0 (by omega) (by omega) (by omega) es y v Ha hS hy (by omega) hcp).mono ?_
      rintro r Hb ⟨g1, g2, g3, g4⟩
      exact ⟨g1, g2, g3, fun i hi hi2 => g4 i hi2 (by omega)⟩
    · rintro rr H' ⟨n', rows', hcase⟩
      refine Holds.mp ?_
      rcases hcase with ⟨rfl, _, s1, s2, s3⟩ | ⟨_, L1, z, L2, _, _, q3, _⟩
      · have hle := cnt_le n (n - 1) [0] hn.2 (by omega)
        have hw : IntKind.i64.wrap ((cntF n (ordN (seqL 0 n) (n - 1) [0]) : Nat) : Int) = (cntS n (n - 1) [0] : Nat) := by
          have : cntF n (ordN (seqL 0 n) (n - 1) [0]) = cntS n (n - 1) [0] := rfl
          rw [this, w64 (by omega)]
        rw [List.nil_append, hw] at s3
        try simp (disch := first | omega | (simp only [ints_length, List.length_replicate, List.length_set, stpL_length]; done) | (simp only [ints_length, List.length_replicate, List.length_set, stpL_length]; omega)) only [Sall,evalOp,init,binE,binI,unE,convE,okNil,builtE,gv,TD.isAgg,resV,↓reduceIte,Nat.reduceEqDiff,reduceCtorEq,Nat.reduceAdd,Nat.reduceMul,Nat.reduceLeDiff,quietOp,blindOp,Int.reduceEq,Int.reduceLT,Int.reduceLE,Nat.reduceLT,ti2,ti3,ti4,ti45,ti46,ti38,ti25,ti30,ti22,ti32,ti24,ti95,ti172,ti169,ti165,ti166,ti65,ti143,ti87, s3]
        exact ⟨by omega, fun i hi => by rw [s2 i (by omega) (by omega), upc.row i (by omega), up1.row i hi]⟩
      · cases q3
  · rw [decide_eq_false h, if_neg h, if_neg h]
    try simp (disch := first | omega | (simp only [ints_length, List.length_replicate, List.length_set, stpL_length]; done) | (simp only [ints_length, List.length_replicate, List.length_set, stpL_length]; omega)) only [Sall,evalOp,init,binE,binI,unE,convE,okNil,builtE,gv,TD.isAgg,resV,↓reduceIte,Nat.reduceEqDiff,reduceCtorEq,Nat.reduceAdd,Nat.reduceMul,Nat.reduceLeDiff,quietOp,blindOp,Int.reduceEq,Int.reduceLT,Int.reduceLE,Nat.reduceLT,ti2,ti3,ti4,ti45,ti46,ti38,ti25,ti30,ti22,ti32,ti24,ti95,ti172,ti169,ti165,ti166,ti65,ti143,ti87, Bool.not_false]
    exact (Up.refl _ H).push (by omega) _
end Go.Proofs.Ytgkmdfjjlghecaa.A
end

section
set_option linter.unusedSimpArgs false
set_option linter.unusedVariables false
set_option maxRecDepth 100000
set_option maxHeartbeats 2000000
namespace Go.Proofs.Ytgkmdfjjlghecaa.A
open Go Go.Abs Go.RowKit

end Go.Proofs.Ytgkmdfjjlghecaa.A
end

section
set_option linter.unusedSimpArgs false
set_option linter.unusedVariables false
set_option maxRecDepth 100000
set_option maxHeartbeats 2000000
namespace Go.Proofs.Ytgkmdfjjlghecaa.A
open Go Go.Abs Go.RowKit

end Go.Proofs.Ytgkmdfjjlghecaa.A
end

section
set_option linter.unusedSimpArgs false
set_option linter.unusedVariables false
set_option maxRecDepth 100000
set_option maxHeartbeats 2000000
namespace Go.Proofs.Ytgkmdfjjlghecaa.A
open Go Go.Abs Go.RowKit

theorem codeC_ne {q : Int} {k : Nat} {l : List Int} (h : ¬ codeC q k l = 0) : (codeC q k l != 0) = true := by rw [bne_iff_ne]; exact h
theorem codeC_yes {q : Int} {k : Nat} {l : List Int} (h : codeC q k l = 0) : schedB q k l = true := by
  unfold codeC at h
  by_cases hb : schedB q k l = true
  · exact hb
  · rw [if_neg hb] at h; omega

theorem once_c (x : Int) (H : AH) : ACalls Try.prog 137 [.int .i64 x] H (is (.bool (x == 1)) H) := by
  refine acalls_of_awp [.tmp 2] Try.func137 (by kernel_rfl) rfl rfl (Nat.le_of_ble_eq_true rfl) (by kernel_rfl) ?_
  try simp (disch := first | omega | (simp only [ints_length, List.length_replicate, List.length_set]; done) | (simp only [ints_length, List.length_replicate, List.length_set]; omega)) only [Sall,evalOp,init,binE,binI,unE,convE,okNil,builtE,gv,TD.isAgg,resV,↓reduceIte,Nat.reduceEqDiff,reduceCtorEq,Nat.reduceAdd,Nat.reduceMul,Nat.reduceLeDiff,quietOp,blindOp,Int.reduceEq,Int.reduceLT,Int.reduceLE,Nat.reduceLT,ti2,ti3,ti4,ti45,ti46,ti38,ti25,ti30,ti22,ti32,ti24,ti95,ti172,ti169,ti165,ti166,ti65,ti143,ti87, is]

theorem areAllOnce_c (v : Value) (n : Nat) (M : List (List Int)) (H : AH) (hv : Rd2 1 H v M) (hM : SqM n M) (hn : n ≤ 1024) : ACalls Try.prog 136 [v, .func (.func 137) #[] #[]] H (is (.bool (balB M)) H) := by
  refine acalls_up rfl (acalls_of_awp [.tmp 4] Try.func136 (by kernel_rfl) rfl rfl (Nat.le_of_ble_eq_true rfl) (by kernel_rfl) ?_)
  have hlen := hv.len
  rw [hM.1] at hlen
  try simp (disch := first | omega | (simp only [ints_length, List.length_replicate, List.length_set]; done) | (simp only [ints_length, List.length_replicate, List.length_set]; omega)) only [Sall,evalOp,init,binE,binI,unE,convE,okNil,builtE,gv,TD.isAgg,resV,↓reduceIte,Nat.reduceEqDiff,reduceCtorEq,Nat.reduceAdd,Nat.reduceMul,Nat.reduceLeDiff,quietOp,blindOp,Int.reduceEq,Int.reduceLT,Int.reduceLE,Nat.reduceLT,ti2,ti3,ti4,ti45,ti46,ti38,ti25,ti30,ti22,ti32,ti24,ti95,ti172,ti169,ti165,ti166,ti65,ti143,ti87, builtE, hlen]
  refine awp_loop (fun m t H' => ∃ a : Nat, m = n - a ∧ a ≤ n ∧ t 11 = .int .i64 a ∧ t 10 = .int .i64 n ∧ t 9 = v ∧ t 1 = .func (.func 137) #[] #[] ∧ H' = H ∧ (∀ i, i < a → ∀ j, j < n → balAt M i j = true)) n ?_ ?_
  · refine ⟨0, by omega, by omega, ?_⟩
    try simp (disch := first | omega | (simp only [ints_length, List.length_replicate, List.length_set]; done) | (simp only [ints_length, List.length_replicate, List.length_set]; omega)) only [Sall,evalOp,init,binE,binI,unE,convE,okNil,builtE,gv,TD.isAgg,resV,↓reduceIte,Nat.reduceEqDiff,reduceCtorEq,Nat.reduceAdd,Nat.reduceMul,Nat.reduceLeDiff,quietOp,blindOp,Int.reduceEq,Int.reduceLT,Int.reduceLE,Nat.reduceLT,ti2,ti3,ti4,ti45,ti46,ti38,ti25,ti30,ti22,ti32,ti24,ti95,ti172,ti169,ti165,ti166,ti65,ti143,ti87, Int.natCast_zero, Nat.not_lt_zero, false_implies]
  · rintro m t H' ⟨a, hm, han, h11, h10, h9, h1, rfl, hall⟩
    try simp (disch := first | omega | (simp only [ints_length, List.length_replicate, List.length_set]; done) | (simp only [ints_length, List.length_replicate, List.length_set]; omega)) only [Sall,evalOp,init,binE,binI,unE,convE,okNil,builtE,gv,TD.isAgg,resV,↓reduceIte,Nat.reduceEqDiff,reduceCtorEq,Nat.reduceAdd,Nat.reduceMul,Nat.reduceLeDiff,quietOp,blindOp,Int.reduceEq,Int.reduceLT,Int.reduceLE,Nat.reduceLT,ti2,ti3,ti4,ti45,ti46,ti38,ti25,ti30,ti22,ti32,ti24,ti95,ti172,ti169,ti165,ti166,ti65,ti143,ti87, h11, h10]
    refine condC_dec (fun h => ?_) (fun h => ?_)
    · obtain ⟨i, o, u, c, r, y, my, rfl, hr, hy, hsx, hok⟩ := hv.get (j := a) (by rw [hM.1]; omega)
      have hmy := hsx.lenK1
      have hrow := hM.2 a (by omega)
      have hMl := hM.1
      rw [hrow] at hmy
      subst hmy
      try simp (disch := first | omega | (simp only [ints_length, List.length_replicate, List.length_set]; done) | (simp only [ints_length, List.length_replicate, List.length_set]; omega)) only [Sall,evalOp,init,binE,binI,unE,convE,okNil,builtE,gv,TD.isAgg,resV,↓reduceIte,Nat.reduceEqDiff,reduceCtorEq,Nat.reduceAdd,Nat.reduceMul,Nat.reduceLeDiff,quietOp,blindOp,Int.reduceEq,Int.reduceLT,Int.reduceLE,Nat.reduceLT,ti2,ti3,ti4,ti45,ti46,ti38,ti25,ti30,ti22,ti32,ti24,ti95,ti172,ti169,ti165,ti166,ti65,ti143,ti87, h11, h10, h9, h1, hr, hy, hok, builtE, hsx.len]
      rw [hMl]
      (repeat refine And.intro (by omega) ?_)
      refine awp_loop (fun z t H7 => ∃ b : Nat, z = my - b ∧ b ≤ my ∧ t 18 = .int .i64 b ∧ t 17 = .int .i64 my ∧ t 16 = y ∧ t 5 = .int .i64 a ∧ t 11 = .int .i64 a ∧ t 10 = .int .i64 my ∧ t 9 = .slice (some ⟨i, o, u⟩) M.length c ∧ t 1 = .func (.func 137) #[] #[] ∧ H7 = H' ∧ (∀ j, j < b → balAt M a j = true)) my ?_ ?_
      · refine ⟨0, by omega, by omega, ?_⟩
        try simp (disch := first | omega | (simp only [ints_length, List.length_replicate, List.length_set]; done) | (simp only [ints_length, List.length_replicate, List.length_set]; omega)) only [Sall,evalOp,init,binE,binI,unE,convE,okNil,builtE,gv,TD.isAgg,resV,↓reduceIte,Nat.reduceEqDiff,reduceCtorEq,Nat.reduceAdd,Nat.reduceMul,Nat.reduceLeDiff,quietOp,blindOp,Int.reduceEq,Int.reduceLT,Int.reduceLE,Nat.reduceLT,ti2,ti3,ti4,ti45,ti46,ti38,ti25,ti30,ti22,ti32,ti24,ti95,ti172,ti169,ti165,ti166,ti65,ti143,ti87, Int.natCast_zero, Nat.not_lt_zero, false_implies, h11, h10, h9, h1]
        try rw [hMl]
      · rintro z t H7 ⟨b, hz, hbn, h18, h17, h16, h5, h11, h10, h9, h1, rfl, hin⟩
        try simp (disch := first | omega | (simp only [ints_length, List.length_replicate, List.length_set]; done) | (simp only [ints_length, List.length_replicate, List.length_set]; omega)) only [Sall,evalOp,init,binE,binI,unE,convE,okNil,builtE,gv,TD.isAgg,resV,↓reduceIte,Nat.reduceEqDiff,reduceCtorEq,Nat.reduceAdd,Nat.reduceMul,Nat.reduceLeDiff,quietOp,blindOp,Int.reduceEq,Int.reduceLT,Int.reduceLE,Nat.reduceLT,ti2,ti3,ti4,ti45,ti46,ti38,ti25,ti30,ti22,ti32,ti24,ti95,ti172,ti169,ti165,ti166,ti65,ti143,ti87, h18, h17]
        refine condC_dec (fun hh => ?_) (fun hh => ?_)
        · obtain ⟨i7, o7, u7, c7, r7, rfl, hr7, hc7, hs7, hg7⟩ := hsx.get (by omega)
          have g1 := hs7 b (by omega)
          by_cases hab : a = b
          · have e2 : ((a : Int) != (b : Int)) = false := by rw [hab]; exact bne_self_eq_false _
            have hbal : balAt M a b = true := by unfold balAt; rw [decide_eq_true hab]; rfl
            try simp (disch := first | omega | (simp only [ints_length, List.length_replicate, List.length_set]; done) | (simp only [ints_length, List.length_replicate, List.length_set]; omega)) only [Sall,evalOp,init,binE,binI,unE,convE,okNil,builtE,gv,TD.isAgg,resV,↓reduceIte,Nat.reduceEqDiff,reduceCtorEq,Nat.reduceAdd,Nat.reduceMul,Nat.reduceLeDiff,quietOp,blindOp,Int.reduceEq,Int.reduceLT,Int.reduceLE,Nat.reduceLT,ti2,ti3,ti4,ti45,ti46,ti38,ti25,ti30,ti22,ti32,ti24,ti95,ti172,ti169,ti165,ti166,ti65,ti143,ti87, h18, h17, h16, h5, h11, h10, h9, h1, hr7, g1, e2, w64]
            (repeat refine And.intro (by omega) ?_)
            refine ⟨my - (b + 1), by omega, b + 1, rfl, by omega, rfl, fun j hj => ?_⟩
            by_cases e : j = b
            · rw [e]; exact hbal
            · exact hin j (by omega)
          · have e2 : ((a : Int) != (b : Int)) = true := by rw [bne_iff_ne]; omega
            try simp (disch := first | omega | (simp only [ints_length, List.length_replicate, List.length_set]; done) | (simp only [ints_length, List.length_replicate, List.length_set]; omega)) only [Sall,evalOp,init,binE,binI,unE,convE,okNil,builtE,gv,TD.isAgg,resV,↓reduceIte,Nat.reduceEqDiff,reduceCtorEq,Nat.reduceAdd,Nat.reduceMul,Nat.reduceLeDiff,quietOp,blindOp,Int.reduceEq,Int.reduceLT,Int.reduceLE,Nat.reduceLT,ti2,ti3,ti4,ti45,ti46,ti38,ti25,ti30,ti22,ti32,ti24,ti95,ti172,ti169,ti165,ti166,ti65,ti143,ti87, h18, h17, h16, h5, h11, h10, h9, h1, hr7, g1, e2]
            (repeat refine And.intro (by omega) ?_)
            refine (once_c _ _).to ?_
            cases hx1 : ((M.getD a []).getD b 0 == 1) with
            | true =>
              have hbal : balAt M a b = true := by unfold balAt; rw [hx1]; simp
              try simp (disch := first | omega | (simp only [ints_length, List.length_replicate, List.length_set]; done) | (simp only [ints_length, List.length_replicate, List.length_set]; omega)) only [Sall,evalOp,init,binE,binI,unE,convE,okNil,builtE,gv,TD.isAgg,resV,↓reduceIte,Nat.reduceEqDiff,reduceCtorEq,Nat.reduceAdd,Nat.reduceMul,Nat.reduceLeDiff,quietOp,blindOp,Int.reduceEq,Int.reduceLT,Int.reduceLE,Nat.reduceLT,ti2,ti3,ti4,ti45,ti46,ti38,ti25,ti30,ti22,ti32,ti24,ti95,ti172,ti169,ti165,ti166,ti65,ti143,ti87, Bool.not_true, h18, h17, h16, h5, h11, h10, h9, h1, w64]
              refine ⟨my - (b + 1), by omega, b + 1, rfl, by omega, rfl, fun j hj => ?_⟩
              by_cases e : j = b
              · rw [e]; exact hbal
              · exact hin j (by omega)
            | false =>
              have hbal : balAt M a b = false := by
                unfold balAt
                rw [decide_eq_false hab, hx1]; rfl
              try simp (disch := first | omega | (simp only [ints_length, List.length_replicate, List.length_set]; done) | (simp only [ints_length, List.length_replicate, List.length_set]; omega)) only [Sall,evalOp,init,binE,binI,unE,convE,okNil,builtE,gv,TD.isAgg,resV,↓reduceIte,Nat.reduceEqDiff,reduceCtorEq,Nat.reduceAdd,Nat.reduceMul,Nat.reduceLeDiff,quietOp,blindOp,Int.reduceEq,Int.reduceLT,Int.reduceLE,Nat.reduceLT,ti2,ti3,ti4,ti45,ti46,ti38,ti25,ti30,ti22,ti32,ti24,ti95,ti172,ti169,ti165,ti166,ti65,ti143,ti87, Bool.not_false]
              rw [balB_bad (i := a) (j := b) (by rw [hMl]; omega) (by omega) hbal]
              exact ⟨rfl, Up.refl _ _⟩
        · try simp (disch := first | omega | (simp only [ints_length, List.length_replicate, List.length_set]; done) | (simp only [ints_length, List.length_replicate, List.length_set]; omega)) only [Sall,evalOp,init,binE,binI,unE,convE,okNil,builtE,gv,TD.isAgg,resV,↓reduceIte,Nat.reduceEqDiff,reduceCtorEq,Nat.reduceAdd,Nat.reduceMul,Nat.reduceLeDiff,quietOp,blindOp,Int.reduceEq,Int.reduceLT,Int.reduceLE,Nat.reduceLT,ti2,ti3,ti4,ti45,ti46,ti38,ti25,ti30,ti22,ti32,ti24,ti95,ti172,ti169,ti165,ti166,ti65,ti143,ti87, h11, h10, h9, h1, w64]
          refine ⟨my - (a + 1), by omega, a + 1, rfl, by omega, rfl, by first | rfl | rw [hMl], fun i hi j hj => ?_⟩
          by_cases e : i = a
          · rw [e]; exact hin j (by omega)
          · exact hall i (by omega) j hj
    · try simp (disch := first | omega | (simp only [ints_length, List.length_replicate, List.length_set]; done) | (simp only [ints_length, List.length_replicate, List.length_set]; omega)) only [Sall,evalOp,init,binE,binI,unE,convE,okNil,builtE,gv,TD.isAgg,resV,↓reduceIte,Nat.reduceEqDiff,reduceCtorEq,Nat.reduceAdd,Nat.reduceMul,Nat.reduceLeDiff,quietOp,blindOp,Int.reduceEq,Int.reduceLT,Int.reduceLE,Nat.reduceLT,ti2,ti3,ti4,ti45,ti46,ti38,ti25,ti30,ti22,ti32,ti24,ti95,ti172,ti169,ti165,ti166,ti65,ti143,ti87, true_and]
      rw [balB_good (fun i hi j hj => hall i (by rw [hM.1] at hi; omega) j (by rw [hM.1] at hi; rw [hM.2 i hi] at hj; exact hj))]
      exact ⟨rfl, Up.refl _ _⟩

def carR (q : Int) (k : Nat) (l : List Int) : List (List Int) := if codeC q k l = 0 then carM q.toNat k l k else []
def costV (q : Int) (k : Nat) (l : List Int) : Int := if codeC q k l = 0 then costM (carM q.toNat k l k) q.toNat else 0
def balV (q : Int) (k : Nat) (l : List Int) : Bool := if codeC q k l = 0 then balB (carM q.toNat k l k) else false

theorem carR_length (q : Int) (k : Nat) (l : List Int) : (carR q k l).length ≤ 14 ∧ tot (carR q k l) ≤ 196 ∧ ∀ y ∈ carR q k l, y.length ≤ 14 := by
  unfold carR
  split
  · rename_i h
    have hb := codeC_yes h
    obtain ⟨h2, _, _⟩ := schedB_at hb
    obtain ⟨n, rfl⟩ : ∃ n : Nat, q = n := ⟨q.toNat, by omega⟩
    have hM := carM_sq (rnd_toNat hb) k (Nat.le_refl _)
    rw [Int.toNat_natCast]
    refine ⟨by rw [hM.1]; omega, ?_, fun y hy => by rw [hM.mem y hy]; omega⟩
    rw [hM.tot]
    have : n ≤ 14 := by omega
    calc n * n ≤ 14 * 14 := Nat.mul_le_mul this this
      _ = 196 := rfl
  · simp [tot]
end Go.Proofs.Ytgkmdfjjlghecaa.A
end

section
set_option linter.unusedSimpArgs false
set_option linter.unusedVariables false
namespace Go.Abs

/-- Pairs of numbers below m as numbers. -/
def ixN (m a b : Nat) : Int := ((a * m + b : Nat) : Int)
theorem ix_inj {m a b c d : Nat} (hb : b < m) (hd : d < m) (h : ixN m a b = ixN m c d) : a = c ∧ b = d := by
  have h0 : a * m + b = c * m + d := by unfold ixN at h; omega
  have h1 : (a * m + b) / m = (c * m + d) / m := by rw [h0]
  rw [Nat.mul_comm a, Nat.mul_comm c, Nat.mul_add_div (by omega), Nat.mul_add_div (by omega), Nat.div_eq_of_lt hb, Nat.div_eq_of_lt hd] at h1
  have e : a = c := by omega
  subst e
  exact ⟨rfl, by omega⟩
theorem ix_lt {m a b : Nat} (ha : a < m) (hb : b < m) : 0 ≤ ixN m a b ∧ ixN m a b < ((m * m : Nat) : Int) := by
  have h : a * m + b < m * m := by
    have h1 : (a + 1) * m ≤ m * m := Nat.mul_le_mul_right m ha
    rw [Nat.succ_mul] at h1
    omega
  unfold ixN
  omega
/-- How often pairs are among others. -/
def cntMx (m : Nat) (I : List Int) : List (List Int) := (List.range m).map fun a => (List.range m).map fun b => ((I.count (ixN m a b) : Nat) : Int)
theorem cntMx_sq (m : Nat) (I : List Int) : SqM m (cntMx m I) := by
  refine ⟨by simp [cntMx], fun j hj => ?_⟩
  unfold cntMx
  rw [List.getD_eq_getElem?_getD, List.getElem?_map, List.getElem?_range hj]
  simp
theorem cntMx_nil (m : Nat) : cntMx m [] = zeroM m := by
  unfold cntMx zeroM
  refine List.eq_replicate_iff.2 ⟨by simp, fun r hr => ?_⟩
  obtain ⟨a, _, rfl⟩ := List.mem_map.1 hr
  exact List.eq_replicate_iff.2 ⟨by simp, by intro b hb; obtain ⟨c, _, rfl⟩ := List.mem_map.1 hb; rfl⟩
theorem cntMx_row (m : Nat) (I : List Int) (a : Nat) (ha : a < m) : (cntMx m I).getD a [] = (List.range m).map fun b => ((I.count (ixN m a b) : Nat) : Int) := by
  unfold cntMx
  rw [List.getD_eq_getElem?_getD, List.getElem?_map, List.getElem?_range ha]
  rfl
theorem cntMx_at (m : Nat) (I : List Int) (a b : Nat) (ha : a < m) (hb : b < m) : ((cntMx m I).getD a []).getD b 0 = ((I.count (ixN m a b) : Nat) : Int) := by
  rw [cntMx_row m I a ha, List.getD_eq_getElem?_getD, List.getElem?_map, List.getElem?_range hb]
  rfl
theorem cntMx_inc (m : Nat) (I : List Int) (x y : Nat) (hx : x < m) (hy : y < m) (hI : I.length ≤ 1000000) : incM (cntMx m I) x y = cntMx m (I ++ [ixN m x y]) := by
  have hsq := cntMx_sq m I
  unfold incM
  rw [Int.toNat_natCast]
  apply List.ext_getElem?
  intro a
  rw [List.getElem?_set, hsq.1]
  by_cases ha : a < m
  · have e1 : (cntMx m (I ++ [ixN m x y]))[a]? = some ((List.range m).map fun b => (((I ++ [ixN m x y]).count (ixN m a b) : Nat) : Int)) := by
      unfold cntMx; rw [List.getElem?_map, List.getElem?_range ha]; rfl
    have e2 : (cntMx m I)[a]? = some ((List.range m).map fun b => ((I.count (ixN m a b) : Nat) : Int)) := by
      unfold cntMx; rw [List.getElem?_map, List.getElem?_range ha]; rfl
    rw [e1]
    by_cases e : x = a
    · subst e
      rw [if_pos rfl, if_pos hx, cntMx_row m I x hx]
      congr 1
      unfold incR
      rw [Int.toNat_natCast]
      apply List.ext_getElem?
      intro b
      rw [List.getElem?_set, List.length_map, List.length_range, List.getElem?_map, List.getElem?_map]
      by_cases hb : b < m
      · rw [List.getElem?_range hb]
        simp only [Option.map_some]
        rw [List.count_append, List.count_singleton]
        by_cases e3 : y = b
        · subst e3
          rw [if_pos rfl, if_pos hy, List.getD_eq_getElem?_getD, List.getElem?_map, List.getElem?_range hy]
          simp only [Option.map_some, Option.getD_some, beq_self_eq_true, if_true]
          have hc := List.count_le_length (a := ixN m x y) (l := I)
          have w : IntKind.i64.wrap (((I.count (ixN m x y) : Nat) : Int) + 1) = ((I.count (ixN m x y) : Nat) : Int) + 1 := w64 (by omega)
          rw [w]; congr 1
        · rw [if_neg e3]
          have : (ixN m x y == ixN m x b) = false := by
            rw [beq_eq_false_iff_ne]; intro h; exact e3 (ix_inj hy hb h).2
          rw [this]; simp
      · rw [if_neg (by omega), List.getElem?_eq_none (by simpa using hb)]; rfl
    · rw [if_neg e, e2]
      congr 1
      apply List.map_congr_left
      intro b hb
      have hb' : b < m := by simpa using hb
      rw [List.count_append, List.count_singleton]
      have : (ixN m x y == ixN m a b) = false := by
        rw [beq_eq_false_iff_ne]; intro h; exact e (ix_inj hy hb' h).1
      rw [this]; simp
  · rw [if_neg (by omega), List.getElem?_eq_none (by rw [hsq.1]; omega), List.getElem?_eq_none (by rw [(cntMx_sq m _).1]; omega)]

/-- All pairs of different numbers. -/
def offD (m : Nat) : List Int := (List.range m).flatMap fun a => ((List.range m).filter fun b => decide (b ≠ a)).map fun b => ixN m a b
theorem offD_length : ∀ m, m < 15 → (offD m).length = m * (m - 1) := by decide +kernel
theorem offD_mem {m a b : Nat} (ha : a < m) (hb : b < m) (h : a ≠ b) : ixN m a b ∈ offD m := by
  unfold offD
  rw [List.mem_flatMap]
  exact ⟨a, by simpa using ha, List.mem_map.2 ⟨b, List.mem_filter.2 ⟨by simpa using hb, by simpa using fun e => h e.symm⟩, rfl⟩⟩
theorem bal_nodup {m : Nat} (hm : m < 15) {I : List Int} (hl : I.length = m * (m - 1)) (hI : ∀ x ∈ I, ∃ a b, a < m ∧ b < m ∧ a ≠ b ∧ x = ixN m a b) : balB (cntMx m I) = decide I.Nodup := by
  have hsq := cntMx_sq m I
  by_cases h : I.Nodup
  · rw [decide_eq_true h]
    have hp : I.Perm (offD m) := perm_of_nodup I (offD m) h (fun x hx => by obtain ⟨a, b, h1, h2, h3, rfl⟩ := hI x hx; exact offD_mem h1 h2 h3) (by rw [offD_length m hm, hl]; exact Nat.le_refl _)
    refine balB_good fun i hi j hj => ?_
    rw [hsq.1] at hi
    rw [hsq.2 i hi] at hj
    unfold balAt
    by_cases e : i = j
    · rw [decide_eq_true e]; rfl
    · rw [decide_eq_false e, Bool.false_or, cntMx_at m I i j hi hj, h.count, if_pos (hp.symm.subset (offD_mem hi hj e))]
      rfl
  · rw [decide_eq_false h, Bool.eq_false_iff]
    intro hb
    refine h (List.nodup_iff_count.2 fun x => ?_)
    by_cases hx : x ∈ I
    · obtain ⟨a, b, h1, h2, h3, rfl⟩ := hI x hx
      have hb2 : balAt (cntMx m I) a b = true := by
        by_cases e : balAt (cntMx m I) a b = true
        · exact e
        · rw [balB_bad (by rw [hsq.1]; exact h1) (by rw [hsq.2 a h1]; exact h2) (by simpa using e)] at hb
          cases hb
      unfold balAt at hb2
      rw [decide_eq_false h3, Bool.false_or, cntMx_at m I a b h1 h2, beq_iff_eq] at hb2
      omega
    · rw [List.count_eq_zero_of_not_mem hx]; omega

/-! ### Neighbours -/
def nbE (m : Nat) (r : List Int) (k : Nat) : Int := ixN m (r.getD k 0).toNat (r.getD (k + 1) 0).toNat
def nbR (m : Nat) (r : List Int) (c : Nat) : List Int := (List.range c).map (nbE m r)
/-- The neighbours of the first i rows, and the first c of the next one. -/
def nbP (m : Nat) (ll : List (List Int)) (i c : Nat) : List Int := ((List.range i).flatMap fun i => nbR m (ll.getD i []) (m - 1)) ++ nbR m (ll.getD i []) c
theorem nbP_succ (m : Nat) (ll : List (List Int)) (i c : Nat) : nbP m ll i (c + 1) = nbP m ll i c ++ [nbE m (ll.getD i []) c] := by
  unfold nbP nbR
  rw [List.range_succ, List.map_append, List.append_assoc]; rfl
theorem nbP_next (m : Nat) (ll : List (List Int)) (i : Nat) : nbP m ll i (m - 1) = nbP m ll (i + 1) 0 := by
  unfold nbP
  rw [List.range_succ, List.flatMap_append]
  simp [nbR]
theorem nbP_zero (m : Nat) (ll : List (List Int)) : nbP m ll 0 0 = [] := rfl
theorem nbP_length (m : Nat) (ll : List (List Int)) (i c : Nat) : (nbP m ll i c).length = i * (m - 1) + c := by
  unfold nbP
  rw [List.length_append]
  have h1 : ∀ r c, (nbR m r c).length = c := fun r c => by simp [nbR]
  rw [h1]
  congr 1
  induction i with
  | zero => simp
  | succ i ih => rw [List.range_succ, List.flatMap_append, List.length_append, ih, Nat.succ_mul]; simp [h1]
theorem getD_nodup {r : List Int} (h : r.Nodup) {i j : Nat} (hi : i < r.length) (hj : j < r.length) (e : r.getD i 0 = r.getD j 0) : i = j := by
  rw [List.getD_eq_getElem?_getD, List.getD_eq_getElem?_getD, List.getElem?_eq_getElem hi, List.getElem?_eq_getElem hj] at e
  simp only [Option.getD_some] at e
  exact (List.getElem_inj h).1 e
def nbA (m : Nat) (ll : List (List Int)) : List Int := nbP m ll m 0
theorem nbA_mem {m : Nat} {ll : List (List Int)} (hin : ∀ i, i < m → (ll.getD i []).length = m ∧ ∀ j, j < m → 0 ≤ (ll.getD i []).getD j 0 ∧ (ll.getD i []).getD j 0 < m) (hlat : latB m ll = true) {x : Int} (hx : x ∈ nbA m ll) : ∃ a b, a < m ∧ b < m ∧ a ≠ b ∧ x = ixN m a b := by
  unfold nbA nbP at hx
  have e0 : nbR m (ll.getD m []) 0 = [] := rfl
  rw [e0, List.append_nil, List.mem_flatMap] at hx
  obtain ⟨i, hi, hx⟩ := hx
  have hi' : i < m := by simpa using hi
  unfold nbR at hx
  obtain ⟨k, hk, rfl⟩ := List.mem_map.1 hx
  have hk' : k < m - 1 := by simpa using hk
  obtain ⟨hl, hr⟩ := hin i hi'
  have h1 := hr k (by omega)
  have h2 := hr (k + 1) (by omega)
  refine ⟨_, _, ?_, ?_, ?_, rfl⟩
  · omega
  · omega
  · intro e
    have ho : ordB m (ll.getD i []) = true := by
      unfold latB at hlat
      have := List.all_eq_true.1 hlat i hi
      unfold latAt at this
      exact (Bool.and_eq_true_iff.1 this).1
    have hnd := ((ordB_iff m _).1 ho).2.2
    have e2 : (ll.getD i []).getD k 0 = (ll.getD i []).getD (k + 1) 0 := by omega
    have := getD_nodup hnd (show k < _ by omega) (show k + 1 < _ by omega) e2
    omega
theorem nbA_length (m : Nat) (ll : List (List Int)) : (nbA m ll).length = m * (m - 1) := by
  unfold nbA; rw [nbP_length, Nat.add_zero]
/-- What IsRowComplete answers. -/
def ircC (n : Int) (ll : List (List Int)) : Int := if haveB n ll = true then (if latB n.toNat ll = true then 0 else 4) else 2
def ircB (n : Int) (ll : List (List Int)) : Bool := haveB n ll && latB n.toNat ll && decide (nbA n.toNat ll).Nodup
theorem nbP_pre (m : Nat) (ll : List (List Int)) (i c : Nat) (hi : i < m) (hc : c < m - 1) : ∃ L, nbA m ll = nbP m ll i (c + 1) ++ L := by
  have h1 : ∀ d, ∃ L, nbP m ll i (c + 1 + d) = nbP m ll i (c + 1) ++ L := by
    intro d
    induction d with
    | zero => exact ⟨[], by simp⟩
    | succ d ih =>
      obtain ⟨L, hL⟩ := ih
      exact ⟨L ++ [nbE m (ll.getD i []) (c + 1 + d)], by rw [← Nat.add_assoc, nbP_succ, hL, List.append_assoc]⟩
  have h2 : ∀ d, ∃ L, nbP m ll (i + 1 + d) 0 = nbP m ll (i + 1) 0 ++ L := by
    intro d
    induction d with
    | zero => exact ⟨[], by simp⟩
    | succ d ih =>
      obtain ⟨L, hL⟩ := ih
      refine ⟨L ++ nbR m (ll.getD (i + 1 + d) []) (m - 1), ?_⟩
      rw [← Nat.add_assoc, ← nbP_next]
      have : nbP m ll (i + 1 + d) (m - 1) = nbP m ll (i + 1 + d) 0 ++ nbR m (ll.getD (i + 1 + d) []) (m - 1) := by
        unfold nbP; simp [nbR]
      rw [this, hL, List.append_assoc]
  obtain ⟨L1, hL1⟩ := h1 (m - 1 - (c + 1))
  obtain ⟨L2, hL2⟩ := h2 (m - (i + 1))
  rw [show c + 1 + (m - 1 - (c + 1)) = m - 1 by omega, nbP_next] at hL1
  rw [show i + 1 + (m - (i + 1)) = m by omega] at hL2
  exact ⟨L1 ++ L2, by unfold nbA; rw [hL2, hL1, List.append_assoc]⟩
theorem nb_bad {m : Nat} {ll : List (List Int)} {i c : Nat} (hi : i < m) (hc : c < m - 1) (h : (nbP m ll i c).contains (nbE m (ll.getD i []) c) = true) : decide (nbA m ll).Nodup = false := by
  obtain ⟨L, hL⟩ := nbP_pre m ll i c hi hc
  rw [decide_eq_false_iff_not, hL, nbP_succ]
  intro hn
  have h1 := (List.nodup_append.1 hn).1
  exact (nodup_snoc.1 h1).2 (List.contains_iff_mem.1 h)
end Go.Abs
end

section
set_option linter.unusedSimpArgs false
set_option linter.unusedVariables false
set_option maxRecDepth 100000
set_option maxHeartbeats 2000000
namespace Go.Proofs.Ytgkmdfjjlghecaa.A
open Go Go.Abs Go.RowKit

theorem IsRowComplete_c (n : Int) (x : Value) (ll : List (List Int)) (H : AH) (hn : -9223372036854775808 ≤ n ∧ n ≤ 9223372036854775807) (hx : Rd2 1 H x ll) (hl : ll.length ≤ 4294967296) (hl2 : ∀ r ∈ ll, r.length ≤ 4294967296) :
    ACalls Try.prog 59 [.int .i64 n, x] H (is (.tuple #[.bool (ircB n ll), .int .i64 (ircC n ll)]) H) := by
  refine acalls_up (by simp [flat, Abs.scal]) (ACalls.wf (by kernel_rfl) fun hs => acalls_of_awp [.tmp 4, .tmp 5] Try.func59 (by kernel_rfl) rfl rfl (Nat.le_of_ble_eq_true rfl) (by kernel_rfl) ?_)
  try simp (disch := first | omega | (simp only [ints_length, List.length_replicate, List.length_set, colL_length]; done) | (simp only [ints_length, List.length_replicate, List.length_set, colL_length]; omega)) only [Sall,evalOp,init,binE,binI,unE,convE,okNil,builtE,gv,TD.isAgg,resV,↓reduceIte,Nat.reduceEqDiff,reduceCtorEq,Nat.reduceAdd,Nat.reduceMul,Nat.reduceLeDiff,quietOp,blindOp,Int.reduceEq,Int.reduceLT,Int.reduceLE,Nat.reduceLT,ti2,ti3,ti4,ti45,ti46,ti38,ti25,ti30,ti22,ti32,ti24,ti95,ti172,ti169,ti165,ti166,ti65,ti143,ti87, true_and]
  refine (haveSquare_c n x ll H hx hl hl2).to ?_
  unfold ircC ircB
  cases hb : haveB n ll with
  | false =>
    try simp (disch := first | omega | (simp only [ints_length, List.length_replicate, List.length_set, colL_length]; done) | (simp only [ints_length, List.length_replicate, List.length_set, colL_length]; omega)) only [Sall,evalOp,init,binE,binI,unE,convE,okNil,builtE,gv,TD.isAgg,resV,↓reduceIte,Nat.reduceEqDiff,reduceCtorEq,Nat.reduceAdd,Nat.reduceMul,Nat.reduceLeDiff,quietOp,blindOp,Int.reduceEq,Int.reduceLT,Int.reduceLE,Nat.reduceLT,ti2,ti3,ti4,ti45,ti46,ti38,ti25,ti30,ti22,ti32,ti24,ti95,ti172,ti169,ti165,ti166,ti65,ti143,ti87, Bool.not_false, Bool.false_and]
    exact Up.refl _ _
  | true =>
    obtain ⟨m, rfl, h1, h2, h3, h4⟩ := haveB_at hb
    rw [Int.toNat_natCast]
    try simp (disch := first | omega | (simp only [ints_length, List.length_replicate, List.length_set, colL_length]; done) | (simp only [ints_length, List.length_replicate, List.length_set, colL_length]; omega)) only [Sall,evalOp,init,binE,binI,unE,convE,okNil,builtE,gv,TD.isAgg,resV,↓reduceIte,Nat.reduceEqDiff,reduceCtorEq,Nat.reduceAdd,Nat.reduceMul,Nat.reduceLeDiff,quietOp,blindOp,Int.reduceEq,Int.reduceLT,Int.reduceLE,Nat.reduceLT,ti2,ti3,ti4,ti45,ti46,ti38,ti25,ti30,ti22,ti32,ti24,ti95,ti172,ti169,ti165,ti166,ti65,ti143,ti87, Bool.not_true]
    refine (isLatin_c m x ll H hx h3 h2 h4).to ?_
    cases hlat : latB m ll with
    | false =>
      try simp (disch := first | omega | (simp only [ints_length, List.length_replicate, List.length_set, colL_length]; done) | (simp only [ints_length, List.length_replicate, List.length_set, colL_length]; omega)) only [Sall,evalOp,init,binE,binI,unE,convE,okNil,builtE,gv,TD.isAgg,resV,↓reduceIte,Nat.reduceEqDiff,reduceCtorEq,Nat.reduceAdd,Nat.reduceMul,Nat.reduceLeDiff,quietOp,blindOp,Int.reduceEq,Int.reduceLT,Int.reduceLE,Nat.reduceLT,ti2,ti3,ti4,ti45,ti46,ti38,ti25,ti30,ti22,ti32,ti24,ti95,ti172,ti169,ti165,ti166,ti65,ti143,ti87, Bool.not_false, Bool.true_and, Bool.false_and]
      exact Up.refl _ _
    | true =>
      try simp (disch := first | omega | (simp only [ints_length, List.length_replicate, List.length_set, colL_length]; done) | (simp only [ints_length, List.length_replicate, List.length_set, colL_length]; omega)) only [Sall,evalOp,init,binE,binI,unE,convE,okNil,builtE,gv,TD.isAgg,resV,↓reduceIte,Nat.reduceEqDiff,reduceCtorEq,Nat.reduceAdd,Nat.reduceMul,Nat.reduceLeDiff,quietOp,blindOp,Int.reduceEq,Int.reduceLT,Int.reduceLE,Nat.reduceLT,ti2,ti3,ti4,ti45,ti46,ti38,ti25,ti30,ti22,ti32,ti24,ti95,ti172,ti169,ti165,ti166,ti65,ti143,ti87, Bool.not_true]
      refine (square_c m (by omega) H).mono ?_
      rintro u H1 ⟨up1, hf1⟩
      have n1 := up1.next
      have hx1 := hx.same (up1.le hs).row
      refine Holds.mp ?_
      try simp (disch := first | omega | (simp only [ints_length, List.length_replicate, List.length_set, colL_length]; done) | (simp only [ints_length, List.length_replicate, List.length_set, colL_length]; omega)) only [Sall,evalOp,init,binE,binI,unE,convE,okNil,builtE,gv,TD.isAgg,resV,↓reduceIte,Nat.reduceEqDiff,reduceCtorEq,Nat.reduceAdd,Nat.reduceMul,Nat.reduceLeDiff,quietOp,blindOp,Int.reduceEq,Int.reduceLT,Int.reduceLE,Nat.reduceLT,ti2,ti3,ti4,ti45,ti46,ti38,ti25,ti30,ti22,ti32,ti24,ti95,ti172,ti169,ti165,ti166,ti65,ti143,ti87, builtE, hx1.len]
      refine awp_loop (fun z t H' => ∃ a : Nat, z = m - a ∧ a ≤ m ∧ t 24 = .int .i64 a ∧ t 23 = .int .i64 m ∧ t 22 = x ∧ t 6 = u ∧ Up H.next H H' ∧ H'.next = H1.next ∧ Fr2 1 38 2 H.next H1.next H' u (cntMx m (nbP m ll a 0))) m ?_ ?_
      · refine ⟨0, by omega, by omega, ?_⟩
        try simp (disch := first | omega | (simp only [ints_length, List.length_replicate, List.length_set, colL_length]; done) | (simp only [ints_length, List.length_replicate, List.length_set, colL_length]; omega)) only [Sall,evalOp,init,binE,binI,unE,convE,okNil,builtE,gv,TD.isAgg,resV,↓reduceIte,Nat.reduceEqDiff,reduceCtorEq,Nat.reduceAdd,Nat.reduceMul,Nat.reduceLeDiff,quietOp,blindOp,Int.reduceEq,Int.reduceLT,Int.reduceLE,Nat.reduceLT,ti2,ti3,ti4,ti45,ti46,ti38,ti25,ti30,ti22,ti32,ti24,ti95,ti172,ti169,ti165,ti166,ti65,ti143,ti87, Int.natCast_zero, h3]
        refine ⟨up1, ?_⟩
        rw [nbP_zero, cntMx_nil]; exact hf1
      · rintro z t H' ⟨a, hz, ha, h24, h23, h22, h6, hup, hnx, hf⟩
        try simp (disch := first | omega | (simp only [ints_length, List.length_replicate, List.length_set, colL_length]; done) | (simp only [ints_length, List.length_replicate, List.length_set, colL_length]; omega)) only [Sall,evalOp,init,binE,binI,unE,convE,okNil,builtE,gv,TD.isAgg,resV,↓reduceIte,Nat.reduceEqDiff,reduceCtorEq,Nat.reduceAdd,Nat.reduceMul,Nat.reduceLeDiff,quietOp,blindOp,Int.reduceEq,Int.reduceLT,Int.reduceLE,Nat.reduceLT,ti2,ti3,ti4,ti45,ti46,ti38,ti25,ti30,ti22,ti32,ti24,ti95,ti172,ti169,ti165,ti166,ti65,ti143,ti87, h24, h23]
        refine condC_dec (fun h => ?_) (fun h => ?_)
        · have hx' := hx.same (hup.le hs).row
          obtain ⟨i, o, uu, c, r, y, my, rfl, hr, hy, hsx, hok⟩ := hx'.get (j := a) (by omega)
          obtain ⟨hlr, hin⟩ := h4 a (by omega)
          have hmm := hsx.lenK1
          rw [hmm, hlr] at hsx
          have hold : ∀ {H2 : AH}, Up H.next H H2 → Rd 1 H2 y m (ll.getD a []) := by
            intro H2 hup2
            obtain ⟨i2, o2, uu2, c2, r2, y2, my2, e2, hr2, hy2, hsx2, _⟩ := hx.get (j := a) (by omega)
            cases e2
            have e3 : r2 = r := by
              have := (hup.le hs).row _ _ hr2
              rw [hr] at this; exact (Option.some.inj this).symm
            subst e3
            rw [hy] at hy2
            cases hy2
            have hmm2 := hsx2.lenK1
            rw [hmm2, hlr] at hsx2
            exact hsx2.same (hup2.le hs).row
          try simp (disch := first | omega | (simp only [ints_length, List.length_replicate, List.length_set, colL_length]; done) | (simp only [ints_length, List.length_replicate, List.length_set, colL_length]; omega)) only [Sall,evalOp,init,binE,binI,unE,convE,okNil,builtE,gv,TD.isAgg,resV,↓reduceIte,Nat.reduceEqDiff,reduceCtorEq,Nat.reduceAdd,Nat.reduceMul,Nat.reduceLeDiff,quietOp,blindOp,Int.reduceEq,Int.reduceLT,Int.reduceLE,Nat.reduceLT,ti2,ti3,ti4,ti45,ti46,ti38,ti25,ti30,ti22,ti32,ti24,ti95,ti172,ti169,ti165,ti166,ti65,ti143,ti87, h24, h23, h22, h6, hr, hy, hok]
          (repeat refine And.intro (by omega) ?_)
          refine awp_loop (fun z t H2 => ∃ b : Nat, z = m - 1 - b ∧ b ≤ m - 1 ∧ t 9 = .int .i64 ((b : Int) + 1) ∧ t 8 = y ∧ t 24 = .int .i64 a ∧ t 23 = .int .i64 m ∧ t 22 = .slice (some ⟨i, o, uu⟩) ll.length c ∧ t 6 = u ∧ Up H.next H H2 ∧ H2.next = H1.next ∧ Fr2 1 38 2 H.next H1.next H2 u (cntMx m (nbP m ll a b))) (m - 1) ?_ ?_
          · refine ⟨0, by omega, by omega, ?_⟩
            try simp (disch := first | omega | (simp only [ints_length, List.length_replicate, List.length_set, colL_length]; done) | (simp only [ints_length, List.length_replicate, List.length_set, colL_length]; omega)) only [Sall,evalOp,init,binE,binI,unE,convE,okNil,builtE,gv,TD.isAgg,resV,↓reduceIte,Nat.reduceEqDiff,reduceCtorEq,Nat.reduceAdd,Nat.reduceMul,Nat.reduceLeDiff,quietOp,blindOp,Int.reduceEq,Int.reduceLT,Int.reduceLE,Nat.reduceLT,ti2,ti3,ti4,ti45,ti46,ti38,ti25,ti30,ti22,ti32,ti24,ti95,ti172,ti169,ti165,ti166,ti65,ti143,ti87, Int.natCast_zero, Int.zero_add, h24, h23, h22, h6]
            exact ⟨hup, hnx, hf⟩
          · rintro z t H2 ⟨b, hz, hbm, h9, h8, h24, h23, h22, h6, hup2, hnx2, hf2⟩
            have hsx2 := hold hup2
            have hsl := hsx2.len
            try simp (disch := first | omega | (simp only [ints_length, List.length_replicate, List.length_set, colL_length]; done) | (simp only [ints_length, List.length_replicate, List.length_set, colL_length]; omega)) only [Sall,evalOp,init,binE,binI,unE,convE,okNil,builtE,gv,TD.isAgg,resV,↓reduceIte,Nat.reduceEqDiff,reduceCtorEq,Nat.reduceAdd,Nat.reduceMul,Nat.reduceLeDiff,quietOp,blindOp,Int.reduceEq,Int.reduceLT,Int.reduceLE,Nat.reduceLT,ti2,ti3,ti4,ti45,ti46,ti38,ti25,ti30,ti22,ti32,ti24,ti95,ti172,ti169,ti165,ti166,ti65,ti143,ti87, h9, h8, builtE, hsl]
            refine condC_dec (fun hh => ?_) (fun hh => ?_)
            · obtain ⟨i7, o7, u7, c7, r7, rfl, hr7, hc7, hs7, hg7⟩ := hsx2.get (by omega)
              have g0 := hs7 b (by omega)
              have g1 := hs7 (b + 1) (by omega)
              have y0 := hin b (by omega)
              have y1 := hin (b + 1) (by omega)
              have hnb := nbP_succ m ll a b
              have hnl := nbP_length m ll a b
              have hlen6 : (nbP m ll a b).length ≤ 1000000 := by
                rw [hnl]
                have : a * (m - 1) ≤ 14 * 14 := Nat.mul_le_mul (by omega) (by omega)
                omega
              unfold nbE at hnb
              obtain ⟨p, hp⟩ : ∃ p : Nat, (ll.getD a []).getD b 0 = (p : Int) := ⟨((ll.getD a []).getD b 0).toNat, by omega⟩
              obtain ⟨q, hq⟩ : ∃ q : Nat, (ll.getD a []).getD (b + 1) 0 = (q : Int) := ⟨((ll.getD a []).getD (b + 1) 0).toNat, by omega⟩
              rw [hp] at g0 y0 hnb
              rw [hq] at g1 y1 hnb
              rw [Int.toNat_natCast, Int.toNat_natCast] at hnb
              have hinc := cntMx_inc m (nbP m ll a b) p q (by omega) (by omega) hlen6
              have hsq := cntMx_sq m (nbP m ll a b)
              have hrow := hsq.2 p (by omega)
              obtain ⟨mi, mvs, i6, rfl, q1, q2, q3, q4, q5, q6, q7, q8, q9⟩ := hf2.setF (j := p) (by rw [hsq.1]; omega) (by omega)
              have hMl := hsq.1
              have q10 := q9 (incR ((cntMx m (nbP m ll a b)).getD p []) (q : Int)) (incR_length _ _)
              rw [hrow] at q4
              have ea : (b : Int) + 1 - 1 = b := by omega
              have ec : ((b : Int) + 1).toNat = b + 1 := by omega
              have ne7 : ¬ i7 = i6 := by
                intro e
                have hsx0 := hold (Up.refl H.next H)
                rcases hsx0.2 with ⟨h0, _⟩ | ⟨i9, o9, u9, c9, r9, e9, hr9, _⟩
                · omega
                · cases e9
                  have := hs _ _ hr9
                  omega
              refine draw_id (by kernel_rfl) (by kernel_rfl) ?_
              try simp (disch := first | omega | (simp only [ints_length, List.length_replicate, List.length_set, colL_length]; done) | (simp only [ints_length, List.length_replicate, List.length_set, colL_length]; omega)) only [Sall,evalOp,init,binE,binI,unE,convE,okNil,builtE,gv,TD.isAgg,resV,↓reduceIte,Nat.reduceEqDiff,reduceCtorEq,Nat.reduceAdd,Nat.reduceMul,Nat.reduceLeDiff,quietOp,blindOp,Int.reduceEq,Int.reduceLT,Int.reduceLE,Nat.reduceLT,ti2,ti3,ti4,ti45,ti46,ti38,ti25,ti30,ti22,ti32,ti24,ti95,ti172,ti169,ti165,ti166,ti65,ti143,ti87, h9, h8, h24, h23, h22, h6, hr7, ea, ec, g0, g1, q3, q4, q8, hMl, Int.toNat_natCast, ints_get?, ints_set, w64]
              (repeat refine And.intro (by omega) ?_)
              rw [hMl] at q10
              have q11 : Fr2 1 38 2 H.next H1.next (H2.setCells i6 (ints (incR ((cntMx m (nbP m ll a b)).getD p []) (q : Int)))) (.slice (some ⟨mi, 0, some 1⟩) m m) (cntMx m (nbP m ll a (b + 1))) := by
                rw [hnb, ← hinc]; exact q10
              exact ⟨.inr (.inl (by kernel_rfl)), m - 1 - (b + 1), by omega, b + 1, rfl, by omega, by omega, hup2.set q5 _, hnx2, q11⟩
            · try simp (disch := first | omega | (simp only [ints_length, List.length_replicate, List.length_set, colL_length]; done) | (simp only [ints_length, List.length_replicate, List.length_set, colL_length]; omega)) only [Sall,evalOp,init,binE,binI,unE,convE,okNil,builtE,gv,TD.isAgg,resV,↓reduceIte,Nat.reduceEqDiff,reduceCtorEq,Nat.reduceAdd,Nat.reduceMul,Nat.reduceLeDiff,quietOp,blindOp,Int.reduceEq,Int.reduceLT,Int.reduceLE,Nat.reduceLT,ti2,ti3,ti4,ti45,ti46,ti38,ti25,ti30,ti22,ti32,ti24,ti95,ti172,ti169,ti165,ti166,ti65,ti143,ti87, h24, h23, h22, h6, w64]
              have hb2 : b = m - 1 := by omega
              subst hb2
              refine ⟨m - (a + 1), by omega, a + 1, rfl, by omega, rfl, hup2, hnx2, ?_⟩
              rw [← nbP_next]; exact hf2
        · try simp (disch := first | omega | (simp only [ints_length, List.length_replicate, List.length_set, colL_length]; done) | (simp only [ints_length, List.length_replicate, List.length_set, colL_length]; omega)) only [Sall,evalOp,init,binE,binI,unE,convE,okNil,builtE,gv,TD.isAgg,resV,↓reduceIte,Nat.reduceEqDiff,reduceCtorEq,Nat.reduceAdd,Nat.reduceMul,Nat.reduceLeDiff,quietOp,blindOp,Int.reduceEq,Int.reduceLT,Int.reduceLE,Nat.reduceLT,ti2,ti3,ti4,ti45,ti46,ti38,ti25,ti30,ti22,ti32,ti24,ti95,ti172,ti169,ti165,ti166,ti65,ti143,ti87, h6]
          have ha2 : a = m := by omega
          subst ha2
          refine (areAllOnce_c u a _ H' hf.rd (cntMx_sq a _) (by omega)).to ?_
          try simp (disch := first | omega | (simp only [ints_length, List.length_replicate, List.length_set, colL_length]; done) | (simp only [ints_length, List.length_replicate, List.length_set, colL_length]; omega)) only [Sall,evalOp,init,binE,binI,unE,convE,okNil,builtE,gv,TD.isAgg,resV,↓reduceIte,Nat.reduceEqDiff,reduceCtorEq,Nat.reduceAdd,Nat.reduceMul,Nat.reduceLeDiff,quietOp,blindOp,Int.reduceEq,Int.reduceLT,Int.reduceLE,Nat.reduceLT,ti2,ti3,ti4,ti45,ti46,ti38,ti25,ti30,ti22,ti32,ti24,ti95,ti172,ti169,ti165,ti166,ti65,ti143,ti87, Bool.true_and]
          refine ⟨?_, hup⟩
          rw [show nbP a ll a 0 = nbA a ll from rfl, bal_nodup (by omega) (nbA_length a ll) fun x hx => nbA_mem h4 hlat hx]
theorem specIsRowComplete_c (n : Int) (x : Value) (ll : List (List Int)) (H : AH) (hn : -9223372036854775808 ≤ n ∧ n ≤ 9223372036854775807) (hx : Rd2 1 H x ll) (hl : ll.length ≤ 4294967296) (hl2 : ∀ r ∈ ll, r.length ≤ 4294967296) :
    ACalls Try.prog 64 [.int .i64 n, x] H (is (.tuple #[.bool (ircB n ll), .int .i64 (ircC n ll)]) H) := by
  refine acalls_up (by simp [flat, Abs.scal]) (ACalls.wf (by kernel_rfl) fun hs => acalls_of_awp [.tmp 4, .tmp 5] Try.func64 (by kernel_rfl) rfl rfl (Nat.le_of_ble_eq_true rfl) (by kernel_rfl) ?_)
  try simp (disch := first | omega | (simp only [ints_length, List.length_replicate, List.length_set, colL_length]; done) | (simp only [ints_length, List.length_replicate, List.length_set, colL_length]; omega)) only [Sall,evalOp,init,binE,binI,unE,convE,okNil,builtE,gv,TD.isAgg,resV,↓reduceIte,Nat.reduceEqDiff,reduceCtorEq,Nat.reduceAdd,Nat.reduceMul,Nat.reduceLeDiff,quietOp,blindOp,Int.reduceEq,Int.reduceLT,Int.reduceLE,Nat.reduceLT,ti2,ti3,ti4,ti45,ti46,ti38,ti25,ti30,ti22,ti32,ti24,ti95,ti172,ti169,ti165,ti166,ti65,ti143,ti87, true_and]
  refine (l09Rows_c n x ll H hx hl hl2).to ?_
  unfold ircC ircB sqoC
  cases hb : haveB n ll with
  | false =>
    have e1 : ((2 : Int) == 0) = false := by decide
    have e2 : ((2 : Int) != 0) = true := by decide
    try simp (disch := first | omega | (simp only [ints_length, List.length_replicate, List.length_set, colL_length]; done) | (simp only [ints_length, List.length_replicate, List.length_set, colL_length]; omega)) only [Sall,evalOp,init,binE,binI,unE,convE,okNil,builtE,gv,TD.isAgg,resV,↓reduceIte,Nat.reduceEqDiff,reduceCtorEq,Nat.reduceAdd,Nat.reduceMul,Nat.reduceLeDiff,quietOp,blindOp,Int.reduceEq,Int.reduceLT,Int.reduceLE,Nat.reduceLT,ti2,ti3,ti4,ti45,ti46,ti38,ti25,ti30,ti22,ti32,ti24,ti95,ti172,ti169,ti165,ti166,ti65,ti143,ti87, Bool.false_and, e1, e2]
    exact Up.refl _ _
  | true =>
    obtain ⟨m, rfl, h1, h2, h3, h4⟩ := haveB_at hb
    rw [Int.toNat_natCast]
    have e1 : ((0 : Int) == 0) = true := by decide
    have e2 : ((0 : Int) != 0) = false := by decide
    have e4 : ((4 : Int) != 0) = true := by decide
    try simp (disch := first | omega | (simp only [ints_length, List.length_replicate, List.length_set, colL_length]; done) | (simp only [ints_length, List.length_replicate, List.length_set, colL_length]; omega)) only [Sall,evalOp,init,binE,binI,unE,convE,okNil,builtE,gv,TD.isAgg,resV,↓reduceIte,Nat.reduceEqDiff,reduceCtorEq,Nat.reduceAdd,Nat.reduceMul,Nat.reduceLeDiff,quietOp,blindOp,Int.reduceEq,Int.reduceLT,Int.reduceLE,Nat.reduceLT,ti2,ti3,ti4,ti45,ti46,ti38,ti25,ti30,ti22,ti32,ti24,ti95,ti172,ti169,ti165,ti166,ti65,ti143,ti87, e1]
    refine (l09Square_c m x ll H hx h3 h2 h4).to ?_
    cases hlat : latB m ll with
    | false =>
      try simp (disch := first | omega | (simp only [ints_length, List.length_replicate, List.length_set, colL_length]; done) | (simp only [ints_length, List.length_replicate, List.length_set, colL_length]; omega)) only [Sall,evalOp,init,binE,binI,unE,convE,okNil,builtE,gv,TD.isAgg,resV,↓reduceIte,Nat.reduceEqDiff,reduceCtorEq,Nat.reduceAdd,Nat.reduceMul,Nat.reduceLeDiff,quietOp,blindOp,Int.reduceEq,Int.reduceLT,Int.reduceLE,Nat.reduceLT,ti2,ti3,ti4,ti45,ti46,ti38,ti25,ti30,ti22,ti32,ti24,ti95,ti172,ti169,ti165,ti166,ti65,ti143,ti87, Bool.not_false, Bool.true_and, Bool.false_and, e4]
      exact Up.refl _ _
    | true =>
      have hmm : m * m ≤ 14 * 14 := Nat.mul_le_mul h2 h2
      have hmi : (m : Int) * (m : Int) = ((m * m : Nat) : Int) := by rw [Int.natCast_mul]
      try simp (disch := first | omega | (simp only [ints_length, List.length_replicate, List.length_set, colL_length]; done) | (simp only [ints_length, List.length_replicate, List.length_set, colL_length]; omega)) only [Sall,evalOp,init,binE,binI,unE,convE,okNil,builtE,gv,TD.isAgg,resV,↓reduceIte,Nat.reduceEqDiff,reduceCtorEq,Nat.reduceAdd,Nat.reduceMul,Nat.reduceLeDiff,quietOp,blindOp,Int.reduceEq,Int.reduceLT,Int.reduceLE,Nat.reduceLT,ti2,ti3,ti4,ti45,ti46,ti38,ti25,ti30,ti22,ti32,ti24,ti95,ti172,ti169,ti165,ti166,ti65,ti143,ti87, Bool.not_true, e2, hmi, w64, zeros_bools, ← metL_nil]
      (repeat refine And.intro (by omega) ?_)
      have hbal := nbA_length m ll
      refine awp_loop (fun z t H' => ∃ a : Nat, z = m - a ∧ a ≤ m ∧ t 8 = .int .i64 a ∧ t 7 = .slice (some ⟨H.next, 0, some 1⟩) (m * m) (m * m) ∧ t 0 = .int .i64 m ∧ t 1 = x ∧ H.next < H'.next ∧ (∀ i, i < H.next → H'.row i = H.row i) ∧ H'.row H.next = some ⟨4, true, bools (metL (m * m) (nbP m ll a 0))⟩ ∧ (nbP m ll a 0).Nodup) m ?_ ?_
      · refine ⟨0, by omega, by omega, ?_⟩
        try simp (disch := first | omega | (simp only [ints_length, List.length_replicate, List.length_set, colL_length]; done) | (simp only [ints_length, List.length_replicate, List.length_set, colL_length]; omega)) only [Sall,evalOp,init,binE,binI,unE,convE,okNil,builtE,gv,TD.isAgg,resV,↓reduceIte,Nat.reduceEqDiff,reduceCtorEq,Nat.reduceAdd,Nat.reduceMul,Nat.reduceLeDiff,quietOp,blindOp,Int.reduceEq,Int.reduceLT,Int.reduceLE,Nat.reduceLT,ti2,ti3,ti4,ti45,ti46,ti38,ti25,ti30,ti22,ti32,ti24,ti95,ti172,ti169,ti165,ti166,ti65,ti143,ti87, Int.natCast_zero, nbP_zero]
        exact ⟨by omega, fun i hi => by rw [if_neg (by omega)], by simp⟩
      · rintro z t H' ⟨a, hz, ha, h8, h7, h0, h1', hnx, hrows, hrow, hnd⟩
        have hup : Up H.next H H' := ⟨by omega, hrows⟩
        try simp (disch := first | omega | (simp only [ints_length, List.length_replicate, List.length_set, colL_length]; done) | (simp only [ints_length, List.length_replicate, List.length_set, colL_length]; omega)) only [Sall,evalOp,init,binE,binI,unE,convE,okNil,builtE,gv,TD.isAgg,resV,↓reduceIte,Nat.reduceEqDiff,reduceCtorEq,Nat.reduceAdd,Nat.reduceMul,Nat.reduceLeDiff,quietOp,blindOp,Int.reduceEq,Int.reduceLT,Int.reduceLE,Nat.reduceLT,ti2,ti3,ti4,ti45,ti46,ti38,ti25,ti30,ti22,ti32,ti24,ti95,ti172,ti169,ti165,ti166,ti65,ti143,ti87, h8, h0]
        refine condC_dec (fun h => ?_) (fun h => ?_)
        · try simp (disch := first | omega | (simp only [ints_length, List.length_replicate, List.length_set, colL_length]; done) | (simp only [ints_length, List.length_replicate, List.length_set, colL_length]; omega)) only [Sall,evalOp,init,binE,binI,unE,convE,okNil,builtE,gv,TD.isAgg,resV,↓reduceIte,Nat.reduceEqDiff,reduceCtorEq,Nat.reduceAdd,Nat.reduceMul,Nat.reduceLeDiff,quietOp,blindOp,Int.reduceEq,Int.reduceLT,Int.reduceLE,Nat.reduceLT,ti2,ti3,ti4,ti45,ti46,ti38,ti25,ti30,ti22,ti32,ti24,ti95,ti172,ti169,ti165,ti166,ti65,ti143,ti87, h8, h7, h0, h1']
          refine awp_loop (fun z t H2 => ∃ b : Nat, z = m - 1 - b ∧ b ≤ m - 1 ∧ t 9 = .int .i64 ((b : Int) + 1) ∧ t 8 = .int .i64 a ∧ t 7 = .slice (some ⟨H.next, 0, some 1⟩) (m * m) (m * m) ∧ t 0 = .int .i64 m ∧ t 1 = x ∧ H.next < H2.next ∧ (∀ i, i < H.next → H2.row i = H.row i) ∧ H2.row H.next = some ⟨4, true, bools (metL (m * m) (nbP m ll a b))⟩ ∧ (nbP m ll a b).Nodup) (m - 1) ?_ ?_
          · refine ⟨0, by omega, by omega, ?_⟩
            try simp (disch := first | omega | (simp only [ints_length, List.length_replicate, List.length_set, colL_length]; done) | (simp only [ints_length, List.length_replicate, List.length_set, colL_length]; omega)) only [Sall,evalOp,init,binE,binI,unE,convE,okNil,builtE,gv,TD.isAgg,resV,↓reduceIte,Nat.reduceEqDiff,reduceCtorEq,Nat.reduceAdd,Nat.reduceMul,Nat.reduceLeDiff,quietOp,blindOp,Int.reduceEq,Int.reduceLT,Int.reduceLE,Nat.reduceLT,ti2,ti3,ti4,ti45,ti46,ti38,ti25,ti30,ti22,ti32,ti24,ti95,ti172,ti169,ti165,ti166,ti65,ti143,ti87, Int.natCast_zero, Int.zero_add, h8, h7, h0, h1']
            exact ⟨hnx, hrows, hrow, hnd⟩
          · rintro z t H2 ⟨b, hz, hbm, h9, h8, h7, h0, h1', hnx2, hrows2, hrow2, hnd2⟩
            have hup2 : Up H.next H H2 := ⟨by omega, hrows2⟩
            have hx2 := hx.same (hup2.le hs).row
            try simp (disch := first | omega | (simp only [ints_length, List.length_replicate, List.length_set, colL_length]; done) | (simp only [ints_length, List.length_replicate, List.length_set, colL_length]; omega)) only [Sall,evalOp,init,binE,binI,unE,convE,okNil,builtE,gv,TD.isAgg,resV,↓reduceIte,Nat.reduceEqDiff,reduceCtorEq,Nat.reduceAdd,Nat.reduceMul,Nat.reduceLeDiff,quietOp,blindOp,Int.reduceEq,Int.reduceLT,Int.reduceLE,Nat.reduceLT,ti2,ti3,ti4,ti45,ti46,ti38,ti25,ti30,ti22,ti32,ti24,ti95,ti172,ti169,ti165,ti166,ti65,ti143,ti87, h9, h0]
            refine condC_dec (fun hh => ?_) (fun hh => ?_)
            · obtain ⟨i, o, uu, c, r, y, my, rfl, hr, hy, hsx, hok⟩ := hx2.get (j := a) (by omega)
              obtain ⟨hlr, hin⟩ := h4 a (by omega)
              have hmm2 := hsx.lenK1
              rw [hmm2, hlr] at hsx
              obtain ⟨i7, o7, u7, c7, r7, rfl, hr7, hc7, hs7, hg7⟩ := hsx.get (by omega)
              have g0 := hs7 b (by omega)
              have g1 := hs7 (b + 1) (by omega)
              have y0 := hin b (by omega)
              have y1 := hin (b + 1) (by omega)
              have hnb := nbP_succ m ll a b
              have hbad := nb_bad (m := m) (ll := ll) (i := a) (c := b) (by omega) (by omega)
              unfold nbE at hnb hbad
              obtain ⟨p, hp⟩ : ∃ p : Nat, (ll.getD a []).getD b 0 = (p : Int) := ⟨((ll.getD a []).getD b 0).toNat, by omega⟩
              obtain ⟨q, hq⟩ : ∃ q : Nat, (ll.getD a []).getD (b + 1) 0 = (q : Int) := ⟨((ll.getD a []).getD (b + 1) 0).toNat, by omega⟩
              rw [hp] at g0 y0 hnb hbad
              rw [hq] at g1 y1 hnb hbad
              rw [Int.toNat_natCast, Int.toNat_natCast] at hnb hbad
              have hix := ix_lt (m := m) (a := p) (b := q) (by omega) (by omega)
              have hpm : (p : Int) * (m : Int) = ((p * m : Nat) : Int) := by rw [Int.natCast_mul]
              have hps : ((p * m : Nat) : Int) + (q : Int) = ixN m p q := by unfold ixN; omega
              have hpb : p * m ≤ 14 * 14 := Nat.mul_le_mul (by omega) h2
              have ea : (b : Int) + 1 - 1 = b := by omega
              have ec : ((b : Int) + 1).toNat = b + 1 := by omega
              have g2 := metL_get? (m * m) (nbP m ll a b) (ixN m p q) hix
              have g3 := metL_put (m * m) (nbP m ll a b) (ixN m p q) hix
              refine draw_id (by kernel_rfl) (by kernel_rfl) ?_
              cases hct : (nbP m ll a b).contains (ixN m p q) with
              | true =>
                rw [hct] at g2
                try simp (disch := first | omega | (simp only [ints_length, List.length_replicate, List.length_set, colL_length]; done) | (simp only [ints_length, List.length_replicate, List.length_set, colL_length]; omega)) only [Sall,evalOp,init,binE,binI,unE,convE,okNil,builtE,gv,TD.isAgg,resV,↓reduceIte,Nat.reduceEqDiff,reduceCtorEq,Nat.reduceAdd,Nat.reduceMul,Nat.reduceLeDiff,quietOp,blindOp,Int.reduceEq,Int.reduceLT,Int.reduceLE,Nat.reduceLT,ti2,ti3,ti4,ti45,ti46,ti38,ti25,ti30,ti22,ti32,ti24,ti95,ti172,ti169,ti165,ti166,ti65,ti143,ti87, h9, h8, h7, h0, h1', hr, hy, hok, hr7, ea, ec, Int.toNat_natCast, g0, g1, w64, hpm, hps, hrow2, g2]
                (repeat refine And.intro (by omega) ?_)
                rw [hbad hct]
                exact ⟨by rw [Bool.and_false], hup2⟩
              | false =>
                rw [hct] at g2
                try simp (disch := first | omega | (simp only [ints_length, List.length_replicate, List.length_set, colL_length]; done) | (simp only [ints_length, List.length_replicate, List.length_set, colL_length]; omega)) only [Sall,evalOp,init,binE,binI,unE,convE,okNil,builtE,gv,TD.isAgg,resV,↓reduceIte,Nat.reduceEqDiff,reduceCtorEq,Nat.reduceAdd,Nat.reduceMul,Nat.reduceLeDiff,quietOp,blindOp,Int.reduceEq,Int.reduceLT,Int.reduceLE,Nat.reduceLT,ti2,ti3,ti4,ti45,ti46,ti38,ti25,ti30,ti22,ti32,ti24,ti95,ti172,ti169,ti165,ti166,ti65,ti143,ti87, h9, h8, h7, h0, h1', hr, hy, hok, hr7, ea, ec, Int.toNat_natCast, g0, g1, w64, hpm, hps, hrow2, g2, g3]
                (repeat refine And.intro (by omega) ?_)
                refine ⟨by rw [bools_length, metL_length]; omega, m - 1 - (b + 1), by omega, b + 1, rfl, by omega, by omega, hnx2, fun i hi => by rw [if_neg (by omega)]; exact hrows2 i hi, by rw [hnb], ?_⟩
                rw [hnb]
                exact nodup_snoc.2 ⟨hnd2, fun hm => by rw [List.contains_iff_mem.2 hm] at hct; cases hct⟩
            · try simp (disch := first | omega | (simp only [ints_length, List.length_replicate, List.length_set, colL_length]; done) | (simp only [ints_length, List.length_replicate, List.length_set, colL_length]; omega)) only [Sall,evalOp,init,binE,binI,unE,convE,okNil,builtE,gv,TD.isAgg,resV,↓reduceIte,Nat.reduceEqDiff,reduceCtorEq,Nat.reduceAdd,Nat.reduceMul,Nat.reduceLeDiff,quietOp,blindOp,Int.reduceEq,Int.reduceLT,Int.reduceLE,Nat.reduceLT,ti2,ti3,ti4,ti45,ti46,ti38,ti25,ti30,ti22,ti32,ti24,ti95,ti172,ti169,ti165,ti166,ti65,ti143,ti87, h8, h7, h0, h1', w64]
              have hb2 : b = m - 1 := by omega
              subst hb2
              rw [nbP_next] at hrow2 hnd2
              exact ⟨m - (a + 1), by omega, a + 1, rfl, by omega, rfl, hnx2, hrows2, hrow2, hnd2⟩
        · have ha2 : a = m := by omega
          subst ha2
          have e : decide (nbA a ll).Nodup = true := decide_eq_true hnd
          try simp (disch := first | omega | (simp only [ints_length, List.length_replicate, List.length_set, colL_length]; done) | (simp only [ints_length, List.length_replicate, List.length_set, colL_length]; omega)) only [Sall,evalOp,init,binE,binI,unE,convE,okNil,builtE,gv,TD.isAgg,resV,↓reduceIte,Nat.reduceEqDiff,reduceCtorEq,Nat.reduceAdd,Nat.reduceMul,Nat.reduceLeDiff,quietOp,blindOp,Int.reduceEq,Int.reduceLT,Int.reduceLE,Nat.reduceLT,ti2,ti3,ti4,ti45,ti46,ti38,ti25,ti30,ti22,ti32,ti24,ti95,ti172,ti169,ti165,ti166,ti65,ti143,ti87, Bool.true_and, e]
          exact hup
end Go.Proofs.Ytgkmdfjjlghecaa.A
end

section
set_option linter.unusedSimpArgs false
set_option linter.unusedVariables false
namespace Go.Abs

theorem modinj {n a b : Int} (h : a % n = b % n) (h1 : -n < a - b) (h2 : a - b < n) : a = b := by
  have hs : (a - b) % n = 0 := by rw [Int.sub_emod, h, Int.sub_self]; exact Int.zero_emod n
  by_cases c : 0 ≤ a - b
  · rw [Int.emod_eq_of_lt c h2] at hs; omega
  · have : (a - b + n) % n = 0 := by rw [Int.add_emod, hs, Int.emod_self]; exact Int.zero_emod n
    rw [Int.emod_eq_of_lt (by omega) (by omega)] at this; omega
theorem modadd {n a a' b b' : Int} (h : a % n = a' % n) (k : b % n = b' % n) : (a + b) % n = (a' + b') % n := by rw [Int.add_emod, h, k, ← Int.add_emod]
theorem modsub {n a a' b b' : Int} (h : a % n = a' % n) (k : b % n = b' % n) : (a - b) % n = (a' - b') % n := by rw [Int.sub_emod, h, k, ← Int.sub_emod]
theorem modmod (n a : Int) : (a % n) % n = a % n := Int.emod_emod_of_dvd a (Int.dvd_refl n)

section
variable {y : List Int}
theorem sqE_mod (hr : ∀ x ∈ y, 0 ≤ x ∧ x < (y.length : Int)) {i j : Nat} (hj : j < y.length) : sqE y.length i y j = ((i : Int) + y.getD j 0) % (y.length : Int) := by
  have := getD_in hr hj
  unfold sqE
  rw [Int.tmod_eq_emod_of_nonneg (by omega)]
theorem sqR_get (n i j : Nat) (hj : j < n) : (sqR n y i n).getD j 0 = sqE n i y j := by
  unfold sqR
  rw [List.getD_eq_getElem?_getD, List.getElem?_map, List.getElem?_range hj]
  show (if j < n then sqE n i y j else 0) = _
  rw [if_pos hj]
theorem sqA_get (n i a : Nat) (hi : i < a) : (sqA n y a).getD i [] = sqR n y i n := by
  unfold sqA
  rw [List.getD_eq_getElem?_getD, List.getElem?_map, List.getElem?_range hi]; rfl
theorem nodup_of_inj {l : List Int} (h : ∀ i j, i < l.length → j < l.length → l.getD i 0 = l.getD j 0 → i = j) : l.Nodup := by
  unfold List.Nodup
  rw [List.pairwise_iff_getElem]
  intro i j hi hj hij e
  have := h i j hi hj (by rw [List.getD_eq_getElem?_getD, List.getD_eq_getElem?_getD, List.getElem?_eq_getElem hi, List.getElem?_eq_getElem hj]; exact e)
  omega
theorem mem_getD {l : List Int} {x : Int} (h : x ∈ l) : ∃ j, j < l.length ∧ l.getD j 0 = x := by
  obtain ⟨j, hj, e⟩ := List.getElem_of_mem h
  exact ⟨j, hj, by rw [List.getD_eq_getElem?_getD, List.getElem?_eq_getElem hj]; exact e⟩

theorem sq_have (h : listB y = true) : haveB y.length (sqL y) = true ∧ latB y.length (sqL y) = true := by
  obtain ⟨h1, h2, h3⟩ := listB_at h
  have hL : sqL y = sqA y.length y y.length := by unfold sqL; rw [if_pos h]
  have row : ∀ i, i < y.length → (sqL y).getD i [] = sqR y.length y i y.length := fun i hi => by rw [hL]; exact sqA_get _ _ _ hi
  have rng : ∀ i j, i < y.length → j < y.length → 0 ≤ sqE y.length i y j ∧ sqE y.length i y j < (y.length : Int) := fun i j hi hj => sqE_range (by omega) (getD_in h2 hj).1
  have col : ∀ i j, i < y.length → j < y.length → (colL (sqL y) i y.length).getD j 0 = sqE y.length j y i := fun i j hi hj => by
    unfold colL
    rw [List.getD_eq_getElem?_getD, List.getElem?_map, List.getElem?_range hj]
    show ((sqL y).getD j []).getD i 0 = _
    rw [row j hj, sqR_get _ _ _ hi]
  constructor
  · unfold haveB
    rw [Bool.and_eq_true, Bool.and_eq_true, decide_eq_true_iff, decide_eq_true_iff, List.all_eq_true]
    refine ⟨by omega, by rw [hL, sqA_length]; omega, fun i hi => ?_⟩
    have hi' : i < y.length := by rw [hL, sqA_length] at hi; simpa using hi
    unfold rowOkB
    rw [row i hi', Bool.and_eq_true, decide_eq_true_iff, List.all_eq_true]
    refine ⟨by rw [sqR_length]; omega, fun j hj => decide_eq_true ?_⟩
    rw [sqR_length] at hj
    have hj' : j < y.length := by simpa using hj
    rw [sqR_get _ _ _ hj']
    have := rng i j hi' hj'
    omega
  · unfold latB
    rw [List.all_eq_true]
    intro i hi
    have hi' : i < y.length := by simpa using hi
    unfold latAt
    rw [Bool.and_eq_true, ordB_iff, ordB_iff, row i hi']
    refine ⟨⟨sqR_length _ _ _ _, fun x hx => ?_, nodup_of_inj fun a b ha hb e => ?_⟩, colL_length _ _ _, fun x hx => ?_, nodup_of_inj fun a b ha hb e => ?_⟩
    · obtain ⟨j, hj, rfl⟩ := mem_getD hx
      rw [sqR_length] at hj
      rw [sqR_get _ _ _ hj]; exact rng i j hi' hj
    · rw [sqR_length] at ha hb
      rw [sqR_get _ _ _ ha, sqR_get _ _ _ hb, sqE_mod h2 ha, sqE_mod h2 hb] at e
      have ka := getD_in h2 ha
      have kb := getD_in h2 hb
      have := modinj e (by omega) (by omega)
      exact getD_nodup h3 ha hb (by omega)
    · obtain ⟨j, hj, rfl⟩ := mem_getD hx
      rw [colL_length] at hj
      rw [col i j hi' hj]; exact rng j i hj hi'
    · rw [colL_length] at ha hb
      rw [col i a hi' ha, col i b hi' hb, sqE_mod h2 hi', sqE_mod h2 hi'] at e
      have := modinj e (by omega) (by omega)
      omega

theorem nbA_get {m : Nat} (ll : List (List Int)) {i c : Nat} (hi : i < m) (hc : c < m - 1) : (nbA m ll).getD (i * (m - 1) + c) 0 = nbE m (ll.getD i []) c := by
  obtain ⟨L, hL⟩ := nbP_pre m ll i c hi hc
  rw [hL, nbP_succ, List.append_assoc, List.getD_eq_getElem?_getD, List.getElem?_append_right (by rw [nbP_length]; omega), nbP_length, Nat.sub_self]
  rfl

theorem sq_complete (h : listB y = true) : decide (nbA y.length (sqL y)).Nodup = stpB y.length y := by
  obtain ⟨h1, h2, h3⟩ := listB_at h
  have hL : sqL y = sqA y.length y y.length := by unfold sqL; rw [if_pos h]
  have row : ∀ i, i < y.length → (sqL y).getD i [] = sqR y.length y i y.length := fun i hi => by rw [hL]; exact sqA_get _ _ _ hi
  have rng : ∀ i j, i < y.length → j < y.length → 0 ≤ sqE y.length i y j ∧ sqE y.length i y j < (y.length : Int) := fun i j hi hj => sqE_range (by omega) (getD_in h2 hj).1
  have nb : ∀ i c, i < y.length → c + 1 < y.length → nbE y.length ((sqL y).getD i []) c = ixN y.length (sqE y.length i y c).toNat (sqE y.length i y (c + 1)).toNat := fun i c hi hc => by
    unfold nbE
    rw [row i hi, sqR_get _ _ _ (by omega), sqR_get _ _ _ hc]
  have st : ∀ c, c + 1 < y.length → (stpL y.length y).getD c 0 = (y.getD (c + 1) 0 - y.getD c 0) % (y.length : Int) := fun c hc => by
    unfold stpL
    rw [List.getD_eq_getElem?_getD, List.getElem?_map, List.getElem?_range (by omega)]; rfl
  obtain ⟨n, hn⟩ : ∃ n, n = y.length := ⟨_, rfl⟩
  have inj : ∀ a b c d : Nat, a < y.length → b < y.length → c < y.length → d < y.length → ixN y.length a b = ixN y.length c d → a = c ∧ b = d := fun a b c d ha hb hc hd e => by
    exact ix_inj hb hd e
  unfold stpB
  rw [decide_eq_decide]
  constructor
  · intro hnd
    refine nodup_of_inj fun j j' hj hj' e => ?_
    rw [stpL_length] at hj hj'
    rw [st j (by omega), st j' (by omega)] at e
    -- a row in which the same pair stands
    obtain ⟨i, hi⟩ : ∃ i : Nat, (i : Int) = (y.getD j 0 - y.getD j' 0) % (y.length : Int) := ⟨((y.getD j 0 - y.getD j' 0) % (y.length : Int)).toNat, by
      have := Int.emod_nonneg (y.getD j 0 - y.getD j' 0) (show (y.length : Int) ≠ 0 by omega); omega⟩
    have hil : i < y.length := by have := Int.emod_lt_of_pos (y.getD j 0 - y.getD j' 0) (show (0 : Int) < y.length by omega); omega
    have him : (i : Int) % (y.length : Int) = (y.getD j 0 - y.getD j' 0) % (y.length : Int) := by rw [hi, modmod]
    have e1 : sqE y.length i y j' = sqE y.length 0 y j := by
      rw [sqE_mod h2 (by omega), sqE_mod h2 (by omega)]
      have := modadd him (rfl : (y.getD j' 0) % (y.length : Int) = _)
      rw [this]; congr 1; omega
    have e2 : sqE y.length i y (j' + 1) = sqE y.length 0 y (j + 1) := by
      rw [sqE_mod h2 (by omega), sqE_mod h2 (by omega)]
      have k1 := modadd him (rfl : (y.getD (j' + 1) 0) % (y.length : Int) = _)
      rw [k1]
      have k2 := modadd (rfl : (y.getD j 0) % (y.length : Int) = _) e
      rw [show y.getD j 0 - y.getD j' 0 + y.getD (j' + 1) 0 = y.getD j 0 + (y.getD (j' + 1) 0 - y.getD j' 0) by omega, ← k2]
      congr 1; omega
    have g1 := nbA_get (sqL y) (m := y.length) (i := 0) (c := j) (by omega) (by omega)
    have g2 := nbA_get (sqL y) (m := y.length) (i := i) (c := j') hil (by omega)
    rw [nb 0 j (by omega) (by omega)] at g1
    rw [nb i j' hil (by omega), e1, e2] at g2
    have hlen := nbA_length y.length (sqL y)
    have hb1 : i * (y.length - 1) + j' < y.length * (y.length - 1) := by
      have : (i + 1) * (y.length - 1) ≤ y.length * (y.length - 1) := Nat.mul_le_mul_right _ hil
      rw [Nat.add_mul] at this; omega
    have hb0 : 0 * (y.length - 1) + j < y.length * (y.length - 1) := by
      have : (0 + 1) * (y.length - 1) ≤ y.length * (y.length - 1) := Nat.mul_le_mul_right _ (by omega)
      rw [Nat.add_mul] at this; omega
    have := getD_nodup hnd (by rw [hlen]; exact hb0) (by rw [hlen]; exact hb1) (g1.trans g2.symm)
    have hm := congrArg (· % (y.length - 1)) this
    simp only [Nat.zero_mul, Nat.zero_add, Nat.mul_add_mod_self_right] at hm
    rw [Nat.mod_eq_of_lt (by omega), Nat.mod_eq_of_lt (by omega)] at hm
    exact hm
  · intro hnd
    have hlen := nbA_length y.length (sqL y)
    refine nodup_of_inj fun p q hp hq e => ?_
    rw [hlen] at hp hq
    have hpos : 0 < y.length - 1 := by
      rcases Nat.eq_zero_or_pos (y.length - 1) with h0 | h0
      · rw [h0] at hp; omega
      · exact h0
    have hp1 : p / (y.length - 1) < y.length := Nat.div_lt_of_lt_mul (by rw [Nat.mul_comm]; exact hp)
    have hq1 : q / (y.length - 1) < y.length := Nat.div_lt_of_lt_mul (by rw [Nat.mul_comm]; exact hq)
    have hp2 := Nat.mod_lt p hpos
    have hq2 := Nat.mod_lt q hpos
    have ep : p / (y.length - 1) * (y.length - 1) + p % (y.length - 1) = p := by rw [Nat.mul_comm]; exact Nat.div_add_mod _ _
    have eq_ : q / (y.length - 1) * (y.length - 1) + q % (y.length - 1) = q := by rw [Nat.mul_comm]; exact Nat.div_add_mod _ _
    have g1 := nbA_get (sqL y) hp1 hp2
    have g2 := nbA_get (sqL y) hq1 hq2
    rw [ep] at g1
    rw [eq_] at g2
    rw [g1, g2, nb _ _ hp1 (by omega), nb _ _ hq1 (by omega)] at e
    revert e ep eq_ hp1 hp2 hq1 hq2
    generalize p / (y.length - 1) = i
    generalize p % (y.length - 1) = c
    generalize q / (y.length - 1) = i'
    generalize q % (y.length - 1) = c'
    intro e hp1 hq1 hp2 hq2 ep eq_
    have r1 := rng i c hp1 (by omega)
    have r2 := rng i (c + 1) hp1 (by omega)
    have r3 := rng i' c' hq1 (by omega)
    have r4 := rng i' (c' + 1) hq1 (by omega)
    obtain ⟨e1, e2⟩ := inj _ _ _ _ (by omega) (by omega) (by omega) (by omega) e
    have e1' : sqE y.length i y c = sqE y.length i' y c' := by omega
    have e2' : sqE y.length i y (c + 1) = sqE y.length i' y (c' + 1) := by omega
    rw [sqE_mod h2 (by omega), sqE_mod h2 (by omega)] at e1' e2'
    have e3 := modsub e2' e1'
    have hc : c = c' := by
      refine getD_nodup hnd (by rw [stpL_length]; omega) (by rw [stpL_length]; omega) ?_
      rw [st c (by omega), st c' (by omega)]
      rw [show (i : Int) + y.getD (c + 1) 0 - ((i : Int) + y.getD c 0) = y.getD (c + 1) 0 - y.getD c 0 by omega, show (i' : Int) + y.getD (c' + 1) 0 - ((i' : Int) + y.getD c' 0) = y.getD (c' + 1) 0 - y.getD c' 0 by omega] at e3
      exact e3
    subst hc
    have := modinj e1' (by omega) (by omega)
    have hii : i = i' := by omega
    subst hii
    omega
end
end Go.Abs
end

section
set_option linter.unusedSimpArgs false
set_option linter.unusedVariables false
set_option maxRecDepth 100000
set_option maxHeartbeats 2000000
namespace Go.Proofs.Ytgkmdfjjlghecaa.A
open Go Go.Abs Go.RowKit

theorem ACalls.scx {P : Program} {f : FuncId} {args : List Value} {H : AH} {α : Type} {g : α → Value} {X : α → AH → Prop} (h : ACalls P f args H (fun v H' => ∃ u, v = g u ∧ X u H')) : ACalls P f args H (fun v H' => ∃ u, v = g u ∧ (X u H' ∧ Sc H')) :=
  h.sc.mono fun v H' ⟨⟨u, h1, h2⟩, h3⟩ => ⟨u, h1, h2, h3⟩

theorem zig_ok : ∀ m : Nat, m < 15 → 1 ≤ m → listB (zigL (m : Int) m) = true ∧ (m % 2 = 0 → stpB m (zigL (m : Int) m) = true) := by
  have h1 : ∀ m : Nat, m < 15 → 1 ≤ m → (∀ x ∈ zigL (m : Int) m, 0 ≤ x ∧ x < (m : Int)) ∧ (zigL (m : Int) m).Nodup ∧ (m % 2 = 0 → (stpL m (zigL (m : Int) m)).Nodup) := by decide +kernel
  intro m hm hm1
  obtain ⟨a, b, c⟩ := h1 m hm hm1
  have hl := zigL_length (m : Int) m
  refine ⟨?_, fun h => decide_eq_true (c h)⟩
  unfold listB
  rw [hl, Bool.and_eq_true, decide_eq_true_iff, ordB_iff]
  exact ⟨by omega, hl, a, b⟩

theorem law_RowComplete_c (cv : Value) (nb : Nat) (H : AH) (hc : CodeOk H cv nb) :
    ACalls Try.prog 9 [cv] H (fun v _ => v = .bool true ∧ True) := by
  refine ACalls.wf (by kernel_rfl) fun hs => acalls_of_awp [.tmp 2] Try.func9 (by kernel_rfl) rfl rfl (Nat.le_of_ble_eq_true rfl) (by kernel_rfl) ?_
  try simp (disch := first | omega | (simp only [ints_length, List.length_replicate, List.length_set]; done) | (simp only [ints_length, List.length_replicate, List.length_set]; omega)) only [Sall,evalOp,init,binE,binI,unE,convE,okNil,builtE,gv,TD.isAgg,resV,↓reduceIte,Nat.reduceEqDiff,reduceCtorEq,Nat.reduceAdd,Nat.reduceMul,Nat.reduceLeDiff,quietOp,blindOp,Int.reduceEq,Int.reduceLT,Int.reduceLE,Nat.reduceLT,ti2,ti3,ti4,ti45,ti46,ti38,ti25,ti30,ti22,ti32,ti24,ti95,ti172,ti169,ti165,ti166,ti65,ti143,ti87,ti110,ti56,ti101,ti5,ti159,ti62,ti161,ti51,ti57,ti9, true_and]
  refine (big_c cv nb H hc).to ?_
  refine Holds.mp ?_
  by_cases hbig : 4096 < (nb : Int)
  · have e : decide (4096 < (nb : Int)) = true := decide_eq_true hbig
    try simp (disch := first | omega | (simp only [ints_length, List.length_replicate, List.length_set]; done) | (simp only [ints_length, List.length_replicate, List.length_set]; omega)) only [Sall,evalOp,init,binE,binI,unE,convE,okNil,builtE,gv,TD.isAgg,resV,↓reduceIte,Nat.reduceEqDiff,reduceCtorEq,Nat.reduceAdd,Nat.reduceMul,Nat.reduceLeDiff,quietOp,blindOp,Int.reduceEq,Int.reduceLT,Int.reduceLE,Nat.reduceLT,ti2,ti3,ti4,ti45,ti46,ti38,ti25,ti30,ti22,ti32,ti24,ti95,ti172,ti169,ti165,ti166,ti65,ti143,ti87,ti110,ti56,ti101,ti5,ti159,ti62,ti161,ti51,ti57,ti9, e]
  have e : decide (4096 < (nb : Int)) = false := decide_eq_false hbig
  have hnb : nb ≤ 4611686018427387904 := by omega
  try simp (disch := first | omega | (simp only [ints_length, List.length_replicate, List.length_set]; done) | (simp only [ints_length, List.length_replicate, List.length_set]; omega)) only [Sall,evalOp,init,binE,binI,unE,convE,okNil,builtE,gv,TD.isAgg,resV,↓reduceIte,Nat.reduceEqDiff,reduceCtorEq,Nat.reduceAdd,Nat.reduceMul,Nat.reduceLeDiff,quietOp,blindOp,Int.reduceEq,Int.reduceLT,Int.reduceLE,Nat.reduceLT,ti2,ti3,ti4,ti45,ti46,ti38,ti25,ti30,ti22,ti32,ti24,ti95,ti172,ti169,ti165,ti166,ti65,ti143,ti87,ti110,ti56,ti101,ti5,ti159,ti62,ti161,ti51,ti57,ti9, e]
  refine (drawSquareOfList_c cv nb H hnb hc).mono ?_
  rintro u0 H1 ⟨l, hll, o1⟩
  have hu0 := o1.one 0 rfl
  refine Holds.mp ?_
  try simp (disch := first | omega | (simp only [ints_length, List.length_replicate, List.length_set]; done) | (simp only [ints_length, List.length_replicate, List.length_set]; omega)) only [Sall,evalOp,init,binE,binI,unE,convE,okNil,builtE,gv,TD.isAgg,resV,↓reduceIte,Nat.reduceEqDiff,reduceCtorEq,Nat.reduceAdd,Nat.reduceMul,Nat.reduceLeDiff,quietOp,blindOp,Int.reduceEq,Int.reduceLT,Int.reduceLE,Nat.reduceLT,ti2,ti3,ti4,ti45,ti46,ti38,ti25,ti30,ti22,ti32,ti24,ti95,ti172,ti169,ti165,ti166,ti65,ti143,ti87,ti110,ti56,ti101,ti5,ti159,ti62,ti161,ti51,ti57,ti9, hu0]
  refine (ACalls.scx (SquareOfList_c u0 l.length l H1 (o1.rd 0 rfl) (by omega))).ex ?_
  rintro u1 H2 ⟨⟨up2, hf2⟩, sc2⟩
  have o2 := o1.call (Ow.of_fr2 up2 sc2 hf2)
  have hu1 := hf2.rd.one
  refine Holds.mp ?_
  try simp (disch := first | omega | (simp only [ints_length, List.length_replicate, List.length_set]; done) | (simp only [ints_length, List.length_replicate, List.length_set]; omega)) only [Sall,evalOp,init,binE,binI,unE,convE,okNil,builtE,gv,TD.isAgg,resV,↓reduceIte,Nat.reduceEqDiff,reduceCtorEq,Nat.reduceAdd,Nat.reduceMul,Nat.reduceLeDiff,quietOp,blindOp,Int.reduceEq,Int.reduceLT,Int.reduceLE,Nat.reduceLT,ti2,ti3,ti4,ti45,ti46,ti38,ti25,ti30,ti22,ti32,ti24,ti95,ti172,ti169,ti165,ti166,ti65,ti143,ti87,ti110,ti56,ti101,ti5,ti159,ti62,ti161,ti51,ti57,ti9, hu1]
  refine (ACalls.scx (specSquareOfList_c u0 l.length l H2 (o2.rd 0 rfl) (by omega))).ex ?_
  rintro u2 H3 ⟨⟨up3, hf3⟩, sc3⟩
  have o3 := o2.call (Ow.of_fr2 up3 sc3 hf3)
  have hu2 := hf3.rd.one
  refine Holds.mp ?_
  try simp (disch := first | omega | (simp only [ints_length, List.length_replicate, List.length_set]; done) | (simp only [ints_length, List.length_replicate, List.length_set]; omega)) only [Sall,evalOp,init,binE,binI,unE,convE,okNil,builtE,gv,TD.isAgg,resV,↓reduceIte,Nat.reduceEqDiff,reduceCtorEq,Nat.reduceAdd,Nat.reduceMul,Nat.reduceLeDiff,quietOp,blindOp,Int.reduceEq,Int.reduceLT,Int.reduceLE,Nat.reduceLT,ti2,ti3,ti4,ti45,ti46,ti38,ti25,ti30,ti22,ti32,ti24,ti95,ti172,ti169,ti165,ti166,ti65,ti143,ti87,ti110,ti56,ti101,ti5,ti159,ti62,ti161,ti51,ti57,ti9, hu2]
  refine (IsStepSequence_c u0 l.length l H3 (o3.rd 0 rfl) (by omega)).to ?_
  refine Holds.mp ?_
  try simp (disch := first | omega | (simp only [ints_length, List.length_replicate, List.length_set]; done) | (simp only [ints_length, List.length_replicate, List.length_set]; omega)) only [Sall,evalOp,init,binE,binI,unE,convE,okNil,builtE,gv,TD.isAgg,resV,↓reduceIte,Nat.reduceEqDiff,reduceCtorEq,Nat.reduceAdd,Nat.reduceMul,Nat.reduceLeDiff,quietOp,blindOp,Int.reduceEq,Int.reduceLT,Int.reduceLE,Nat.reduceLT,ti2,ti3,ti4,ti45,ti46,ti38,ti25,ti30,ti22,ti32,ti24,ti95,ti172,ti169,ti165,ti166,ti65,ti143,ti87,ti110,ti56,ti101,ti5,ti159,ti62,ti161,ti51,ti57,ti9, true_and]
  refine (specIsStepSequence_c u0 l.length l H3 (o3.rd 0 rfl) (by omega)).to ?_
  refine Holds.mp ?_
  obtain ⟨hq1, _, hq2⟩ := sqL_size l
  try simp (disch := first | omega | (simp only [ints_length, List.length_replicate, List.length_set]; done) | (simp only [ints_length, List.length_replicate, List.length_set]; omega)) only [Sall,evalOp,init,binE,binI,unE,convE,okNil,builtE,gv,TD.isAgg,resV,↓reduceIte,Nat.reduceEqDiff,reduceCtorEq,Nat.reduceAdd,Nat.reduceMul,Nat.reduceLeDiff,quietOp,blindOp,Int.reduceEq,Int.reduceLT,Int.reduceLE,Nat.reduceLT,ti2,ti3,ti4,ti45,ti46,ti38,ti25,ti30,ti22,ti32,ti24,ti95,ti172,ti169,ti165,ti166,ti65,ti143,ti87,ti110,ti56,ti101,ti5,ti159,ti62,ti161,ti51,ti57,ti9, bne_self_eq_false]
  refine (rows5_c u1 u2 (sqL l) H3 (by omega) (fun j hj => by have := hq2 _ (getD_mem hj); omega) (o3.rd2 1 rfl) (o3.rd2 2 rfl)).to ?_
  refine Holds.mp ?_
  have eb : (!(isqB l == isqB l)) = false := by simp
  have eb2 : (isqB l == isqB l) = true := by simp
  have hln := o3.lenV 0 rfl
  try simp (disch := first | omega | (simp only [ints_length, List.length_replicate, List.length_set]; done) | (simp only [ints_length, List.length_replicate, List.length_set]; omega)) only [Sall,evalOp,init,binE,binI,unE,convE,okNil,builtE,gv,TD.isAgg,resV,↓reduceIte,Nat.reduceEqDiff,reduceCtorEq,Nat.reduceAdd,Nat.reduceMul,Nat.reduceLeDiff,quietOp,blindOp,Int.reduceEq,Int.reduceLT,Int.reduceLE,Nat.reduceLT,ti2,ti3,ti4,ti45,ti46,ti38,ti25,ti30,ti22,ti32,ti24,ti95,ti172,ti169,ti165,ti166,ti65,ti143,ti87,ti110,ti56,ti101,ti5,ti159,ti62,ti161,ti51,ti57,ti9, bne_self_eq_false, eb, eb2]
  refine condC_cut (fun t H' => t 0 = cv ∧ Ow H H' []) (fun _ => ?_) (fun hq => ?_) ?_
  · try simp (disch := first | omega | (simp only [ints_length, List.length_replicate, List.length_set]; done) | (simp only [ints_length, List.length_replicate, List.length_set]; omega)) only [Sall,evalOp,init,binE,binI,unE,convE,okNil,builtE,gv,TD.isAgg,resV,↓reduceIte,Nat.reduceEqDiff,reduceCtorEq,Nat.reduceAdd,Nat.reduceMul,Nat.reduceLeDiff,quietOp,blindOp,Int.reduceEq,Int.reduceLT,Int.reduceLE,Nat.reduceLT,ti2,ti3,ti4,ti45,ti46,ti38,ti25,ti30,ti22,ti32,ti24,ti95,ti172,ti169,ti165,ti166,ti65,ti143,ti87,ti110,ti56,ti101,ti5,ti159,ti62,ti161,ti51,ti57,ti9, true_and]
    exact Ow.left (L := []) o3
  · have hlist : listB l = true := by
      unfold sqC at hq
      by_cases c : listB l = true
      · exact c
      · rw [if_neg c] at hq; simp at hq
    obtain ⟨s1, s2⟩ := sq_have hlist
    have s3 := sq_complete hlist
    obtain ⟨n1, _, _⟩ := listB_at hlist
    try simp (disch := first | omega | (simp only [ints_length, List.length_replicate, List.length_set]; done) | (simp only [ints_length, List.length_replicate, List.length_set]; omega)) only [Sall,evalOp,init,binE,binI,unE,convE,okNil,builtE,gv,TD.isAgg,resV,↓reduceIte,Nat.reduceEqDiff,reduceCtorEq,Nat.reduceAdd,Nat.reduceMul,Nat.reduceLeDiff,quietOp,blindOp,Int.reduceEq,Int.reduceLT,Int.reduceLE,Nat.reduceLT,ti2,ti3,ti4,ti45,ti46,ti38,ti25,ti30,ti22,ti32,ti24,ti95,ti172,ti169,ti165,ti166,ti65,ti143,ti87,ti110,ti56,ti101,ti5,ti159,ti62,ti161,ti51,ti57,ti9, builtE, hln]
    refine (IsSquareOf_c l.length u1 (sqL l) H3 ⟨by omega, by omega⟩ (o3.rd2 1 rfl) (by omega) (fun r hr => by have := hq2 r hr; omega)).to ?_
    refine Holds.mp ?_
    try simp (disch := first | omega | (simp only [ints_length, List.length_replicate, List.length_set]; done) | (simp only [ints_length, List.length_replicate, List.length_set]; omega)) only [Sall,evalOp,init,binE,binI,unE,convE,okNil,builtE,gv,TD.isAgg,resV,↓reduceIte,Nat.reduceEqDiff,reduceCtorEq,Nat.reduceAdd,Nat.reduceMul,Nat.reduceLeDiff,quietOp,blindOp,Int.reduceEq,Int.reduceLT,Int.reduceLE,Nat.reduceLT,ti2,ti3,ti4,ti45,ti46,ti38,ti25,ti30,ti22,ti32,ti24,ti95,ti172,ti169,ti165,ti166,ti65,ti143,ti87,ti110,ti56,ti101,ti5,ti159,ti62,ti161,ti51,ti57,ti9, true_and]
    refine (IsRowComplete_c l.length u1 (sqL l) H3 ⟨by omega, by omega⟩ (o3.rd2 1 rfl) (by omega) (fun r hr => by have := hq2 r hr; omega)).to ?_
    have f1 : sqoC (l.length : Int) (sqL l) = 0 := by unfold sqoC; rw [if_pos s1]
    have f2 : ircC (l.length : Int) (sqL l) = 0 := by unfold ircC; rw [if_pos s1, Int.toNat_natCast, if_pos s2]
    have f3 : sqoB (l.length : Int) (sqL l) = true := by unfold sqoB; rw [s1, Int.toNat_natCast, s2]; rfl
    have f4 : isqC l = 0 := by unfold isqC; rw [if_pos hlist]
    have f5 : ircB (l.length : Int) (sqL l) = isqB l := by unfold ircB isqB; rw [s1, Int.toNat_natCast, s2, s3, hlist]; rfl
    refine Holds.mp ?_
    rw [f1, f2, f3, f4, f5]
    try simp (disch := first | omega | (simp only [ints_length, List.length_replicate, List.length_set]; done) | (simp only [ints_length, List.length_replicate, List.length_set]; omega)) only [Sall,evalOp,init,binE,binI,unE,convE,okNil,builtE,gv,TD.isAgg,resV,↓reduceIte,Nat.reduceEqDiff,reduceCtorEq,Nat.reduceAdd,Nat.reduceMul,Nat.reduceLeDiff,quietOp,blindOp,Int.reduceEq,Int.reduceLT,Int.reduceLE,Nat.reduceLT,ti2,ti3,ti4,ti45,ti46,ti38,ti25,ti30,ti22,ti32,ti24,ti95,ti172,ti169,ti165,ti166,ti65,ti143,ti87,ti110,ti56,ti101,ti5,ti159,ti62,ti161,ti51,ti57,ti9, bne_self_eq_false, eb, eb2]
    exact Ow.left (L := []) o3
  · rintro t H4 ⟨h0, o4⟩
    try simp (disch := first | omega | (simp only [ints_length, List.length_replicate, List.length_set]; done) | (simp only [ints_length, List.length_replicate, List.length_set]; omega)) only [Sall,evalOp,init,binE,binI,unE,convE,okNil,builtE,gv,TD.isAgg,resV,↓reduceIte,Nat.reduceEqDiff,reduceCtorEq,Nat.reduceAdd,Nat.reduceMul,Nat.reduceLeDiff,quietOp,blindOp,Int.reduceEq,Int.reduceLT,Int.reduceLE,Nat.reduceLT,ti2,ti3,ti4,ti45,ti46,ti38,ti25,ti30,ti22,ti32,ti24,ti95,ti172,ti169,ti165,ti166,ti65,ti143,ti87,ti110,ti56,ti101,ti5,ti159,ti62,ti161,ti51,ti57,ti9, h0]
    refine (drawZig_c cv nb H4 hnb (hc.up (o4.old hs))).ex ?_
    rintro x H5 ⟨x1, x2, o5⟩
    have o5' := o4.call o5
    refine Holds.mp ?_
    try simp (disch := first | omega | (simp only [ints_length, List.length_replicate, List.length_set]; done) | (simp only [ints_length, List.length_replicate, List.length_set]; omega)) only [Sall,evalOp,init,binE,binI,unE,convE,okNil,builtE,gv,TD.isAgg,resV,↓reduceIte,Nat.reduceEqDiff,reduceCtorEq,Nat.reduceAdd,Nat.reduceMul,Nat.reduceLeDiff,quietOp,blindOp,Int.reduceEq,Int.reduceLT,Int.reduceLE,Nat.reduceLT,ti2,ti3,ti4,ti45,ti46,ti38,ti25,ti30,ti22,ti32,ti24,ti95,ti172,ti169,ti165,ti166,ti65,ti143,ti87,ti110,ti56,ti101,ti5,ti159,ti62,ti161,ti51,ti57,ti9, true_and]
    refine (ZigzagOf_c x H5).ex ?_
    rintro z1 H6 o6
    have o6' := o5'.call o6
    have hz1 := o6.one 0 rfl
    refine Holds.mp ?_
    try simp (disch := first | omega | (simp only [ints_length, List.length_replicate, List.length_set]; done) | (simp only [ints_length, List.length_replicate, List.length_set]; omega)) only [Sall,evalOp,init,binE,binI,unE,convE,okNil,builtE,gv,TD.isAgg,resV,↓reduceIte,Nat.reduceEqDiff,reduceCtorEq,Nat.reduceAdd,Nat.reduceMul,Nat.reduceLeDiff,quietOp,blindOp,Int.reduceEq,Int.reduceLT,Int.reduceLE,Nat.reduceLT,ti2,ti3,ti4,ti45,ti46,ti38,ti25,ti30,ti22,ti32,ti24,ti95,ti172,ti169,ti165,ti166,ti65,ti143,ti87,ti110,ti56,ti101,ti5,ti159,ti62,ti161,ti51,ti57,ti9, hz1]
    refine (specZigzagOf_c x H6).ex ?_
    rintro z2 H7 o7
    have o7' := o6'.call o7
    have hz2 := o7.one 0 rfl
    refine Holds.mp ?_
    have hzl := zigR_length x
    try simp (disch := first | omega | (simp only [ints_length, List.length_replicate, List.length_set]; done) | (simp only [ints_length, List.length_replicate, List.length_set]; omega)) only [Sall,evalOp,init,binE,binI,unE,convE,okNil,builtE,gv,TD.isAgg,resV,↓reduceIte,Nat.reduceEqDiff,reduceCtorEq,Nat.reduceAdd,Nat.reduceMul,Nat.reduceLeDiff,quietOp,blindOp,Int.reduceEq,Int.reduceLT,Int.reduceLE,Nat.reduceLT,ti2,ti3,ti4,ti45,ti46,ti38,ti25,ti30,ti22,ti32,ti24,ti95,ti172,ti169,ti165,ti166,ti65,ti143,ti87,ti110,ti56,ti101,ti5,ti159,ti62,ti161,ti51,ti57,ti9, hz2, bne_self_eq_false]
    refine (likeInts_c z1 z2 _ (zigR x) H7 (by omega) (o7'.rd 0 rfl) (o7'.rd 1 rfl)).to ?_
    refine Holds.mp ?_
    try simp (disch := first | omega | (simp only [ints_length, List.length_replicate, List.length_set]; done) | (simp only [ints_length, List.length_replicate, List.length_set]; omega)) only [Sall,evalOp,init,binE,binI,unE,convE,okNil,builtE,gv,TD.isAgg,resV,↓reduceIte,Nat.reduceEqDiff,reduceCtorEq,Nat.reduceAdd,Nat.reduceMul,Nat.reduceLeDiff,quietOp,blindOp,Int.reduceEq,Int.reduceLT,Int.reduceLE,Nat.reduceLT,ti2,ti3,ti4,ti45,ti46,ti38,ti25,ti30,ti22,ti32,ti24,ti95,ti172,ti169,ti165,ti166,ti65,ti143,ti87,ti110,ti56,ti101,ti5,ti159,ti62,ti161,ti51,ti57,ti9, true_and]
    refine condC_cut (fun t H' => t 0 = cv ∧ Ow H H' []) (fun _ => ?_) (fun hq => ?_) ?_
    · try simp (disch := first | omega | (simp only [ints_length, List.length_replicate, List.length_set]; done) | (simp only [ints_length, List.length_replicate, List.length_set]; omega)) only [Sall,evalOp,init,binE,binI,unE,convE,okNil,builtE,gv,TD.isAgg,resV,↓reduceIte,Nat.reduceEqDiff,reduceCtorEq,Nat.reduceAdd,Nat.reduceMul,Nat.reduceLeDiff,quietOp,blindOp,Int.reduceEq,Int.reduceLT,Int.reduceLE,Nat.reduceLT,ti2,ti3,ti4,ti45,ti46,ti38,ti25,ti30,ti22,ti32,ti24,ti95,ti172,ti169,ti165,ti166,ti65,ti143,ti87,ti110,ti56,ti101,ti5,ti159,ti62,ti161,ti51,ti57,ti9, h0]
      exact Ow.left (L := []) o7'
    · have hx14 : 1 ≤ x ∧ x ≤ 14 := by
        unfold zigC at hq
        by_cases c : 1 ≤ x ∧ x ≤ 14
        · exact c
        · rw [if_neg c] at hq; simp at hq
      obtain ⟨m, rfl⟩ : ∃ m : Nat, x = m := ⟨x.toNat, by omega⟩
      have hzr : zigR (m : Int) = zigL m m := by unfold zigR; rw [if_pos hx14, Int.toNat_natCast]
      obtain ⟨zk1, zk2⟩ := zig_ok m (by omega) (by omega)
      have hzm := zigL_length (m : Int) m
      try simp (disch := first | omega | (simp only [ints_length, List.length_replicate, List.length_set]; done) | (simp only [ints_length, List.length_replicate, List.length_set]; omega)) only [Sall,evalOp,init,binE,binI,unE,convE,okNil,builtE,gv,TD.isAgg,resV,↓reduceIte,Nat.reduceEqDiff,reduceCtorEq,Nat.reduceAdd,Nat.reduceMul,Nat.reduceLeDiff,quietOp,blindOp,Int.reduceEq,Int.reduceLT,Int.reduceLE,Nat.reduceLT,ti2,ti3,ti4,ti45,ti46,ti38,ti25,ti30,ti22,ti32,ti24,ti95,ti172,ti169,ti165,ti166,ti65,ti143,ti87,ti110,ti56,ti101,ti5,ti159,ti62,ti161,ti51,ti57,ti9, true_and]
      refine (IsStepSequence_c z1 _ (zigR m) H7 (o7'.rd 0 rfl) (by omega)).to ?_
      have f1 : isqC (zigR (m : Int)) = 0 := by rw [hzr]; unfold isqC; rw [if_pos zk1]
      refine Holds.mp ?_
      rw [f1]
      by_cases hev : m % 2 = 0
      · have f2 : isqB (zigR (m : Int)) = true := by rw [hzr]; unfold isqB; rw [zk1, hzm, zk2 hev]; rfl
        have e2 : ((m : Int).tmod 2 == 0) = true := by rw [Int.tmod_eq_emod_of_nonneg (by omega)]; exact beq_iff_eq.2 (by omega)
        rw [f2]
        try simp (disch := first | omega | (simp only [ints_length, List.length_replicate, List.length_set]; done) | (simp only [ints_length, List.length_replicate, List.length_set]; omega)) only [Sall,evalOp,init,binE,binI,unE,convE,okNil,builtE,gv,TD.isAgg,resV,↓reduceIte,Nat.reduceEqDiff,reduceCtorEq,Nat.reduceAdd,Nat.reduceMul,Nat.reduceLeDiff,quietOp,blindOp,Int.reduceEq,Int.reduceLT,Int.reduceLE,Nat.reduceLT,ti2,ti3,ti4,ti45,ti46,ti38,ti25,ti30,ti22,ti32,ti24,ti95,ti172,ti169,ti165,ti166,ti65,ti143,ti87,ti110,ti56,ti101,ti5,ti159,ti62,ti161,ti51,ti57,ti9, h0, bne_self_eq_false, e2]
        exact Ow.left (L := []) o7'
      · have e2 : ((m : Int).tmod 2 == 0) = false := by rw [Int.tmod_eq_emod_of_nonneg (by omega)]; exact beq_eq_false_iff_ne.2 (by omega)
        try simp (disch := first | omega | (simp only [ints_length, List.length_replicate, List.length_set]; done) | (simp only [ints_length, List.length_replicate, List.length_set]; omega)) only [Sall,evalOp,init,binE,binI,unE,convE,okNil,builtE,gv,TD.isAgg,resV,↓reduceIte,Nat.reduceEqDiff,reduceCtorEq,Nat.reduceAdd,Nat.reduceMul,Nat.reduceLeDiff,quietOp,blindOp,Int.reduceEq,Int.reduceLT,Int.reduceLE,Nat.reduceLT,ti2,ti3,ti4,ti45,ti46,ti38,ti25,ti30,ti22,ti32,ti24,ti95,ti172,ti169,ti165,ti166,ti65,ti143,ti87,ti110,ti56,ti101,ti5,ti159,ti62,ti161,ti51,ti57,ti9, h0, bne_self_eq_false, e2]
        exact Ow.left (L := []) o7'
    · rintro t H8 ⟨h0, o8⟩
      try simp (disch := first | omega | (simp only [ints_length, List.length_replicate, List.length_set]; done) | (simp only [ints_length, List.length_replicate, List.length_set]; omega)) only [Sall,evalOp,init,binE,binI,unE,convE,okNil,builtE,gv,TD.isAgg,resV,↓reduceIte,Nat.reduceEqDiff,reduceCtorEq,Nat.reduceAdd,Nat.reduceMul,Nat.reduceLeDiff,quietOp,blindOp,Int.reduceEq,Int.reduceLT,Int.reduceLE,Nat.reduceLT,ti2,ti3,ti4,ti45,ti46,ti38,ti25,ti30,ti22,ti32,ti24,ti95,ti172,ti169,ti165,ti166,ti65,ti143,ti87,ti110,ti56,ti101,ti5,ti159,ti62,ti161,ti51,ti57,ti9, h0]
      refine (drawIsRowComplete_c cv nb H8 hnb (hc.up (o8.old hs))).ex ?_
      rintro ⟨m, w⟩ H9 ⟨ll, m1, m2, m3, m4, o9⟩
      dsimp only at m1 m2 o9
      have o9' := o8.call o9
      have hw := (o9.rd2 0 rfl).one
      refine Holds.mp ?_
      try simp (disch := first | omega | (simp only [ints_length, List.length_replicate, List.length_set]; done) | (simp only [ints_length, List.length_replicate, List.length_set]; omega)) only [Sall,evalOp,init,binE,binI,unE,convE,okNil,builtE,gv,TD.isAgg,resV,↓reduceIte,Nat.reduceEqDiff,reduceCtorEq,Nat.reduceAdd,Nat.reduceMul,Nat.reduceLeDiff,quietOp,blindOp,Int.reduceEq,Int.reduceLT,Int.reduceLE,Nat.reduceLT,ti2,ti3,ti4,ti45,ti46,ti38,ti25,ti30,ti22,ti32,ti24,ti95,ti172,ti169,ti165,ti166,ti65,ti143,ti87,ti110,ti56,ti101,ti5,ti159,ti62,ti161,ti51,ti57,ti9, hw]
      refine (IsRowComplete_c m w ll H9 ⟨by omega, by omega⟩ (o9.rd2 0 rfl) (by omega) (fun r hr => by have := m4 r hr; omega)).to ?_
      refine Holds.mp ?_
      try simp (disch := first | omega | (simp only [ints_length, List.length_replicate, List.length_set]; done) | (simp only [ints_length, List.length_replicate, List.length_set]; omega)) only [Sall,evalOp,init,binE,binI,unE,convE,okNil,builtE,gv,TD.isAgg,resV,↓reduceIte,Nat.reduceEqDiff,reduceCtorEq,Nat.reduceAdd,Nat.reduceMul,Nat.reduceLeDiff,quietOp,blindOp,Int.reduceEq,Int.reduceLT,Int.reduceLE,Nat.reduceLT,ti2,ti3,ti4,ti45,ti46,ti38,ti25,ti30,ti22,ti32,ti24,ti95,ti172,ti169,ti165,ti166,ti65,ti143,ti87,ti110,ti56,ti101,ti5,ti159,ti62,ti161,ti51,ti57,ti9, hw]
      refine (specIsRowComplete_c m w ll H9 ⟨by omega, by omega⟩ (o9.rd2 0 rfl) (by omega) (fun r hr => by have := m4 r hr; omega)).to ?_
      refine Holds.mp ?_
      try simp (disch := first | omega | (simp only [ints_length, List.length_replicate, List.length_set]; done) | (simp only [ints_length, List.length_replicate, List.length_set]; omega)) only [Sall,evalOp,init,binE,binI,unE,convE,okNil,builtE,gv,TD.isAgg,resV,↓reduceIte,Nat.reduceEqDiff,reduceCtorEq,Nat.reduceAdd,Nat.reduceMul,Nat.reduceLeDiff,quietOp,blindOp,Int.reduceEq,Int.reduceLT,Int.reduceLE,Nat.reduceLT,ti2,ti3,ti4,ti45,ti46,ti38,ti25,ti30,ti22,ti32,ti24,ti95,ti172,ti169,ti165,ti166,ti65,ti143,ti87,ti110,ti56,ti101,ti5,ti159,ti62,ti161,ti51,ti57,ti9, hw]
      refine (IsSquareOf_c m w ll H9 ⟨by omega, by omega⟩ (o9.rd2 0 rfl) (by omega) (fun r hr => by have := m4 r hr; omega)).to ?_
      refine Holds.mp ?_
      try simp (disch := first | omega | (simp only [ints_length, List.length_replicate, List.length_set]; done) | (simp only [ints_length, List.length_replicate, List.length_set]; omega)) only [Sall,evalOp,init,binE,binI,unE,convE,okNil,builtE,gv,TD.isAgg,resV,↓reduceIte,Nat.reduceEqDiff,reduceCtorEq,Nat.reduceAdd,Nat.reduceMul,Nat.reduceLeDiff,quietOp,blindOp,Int.reduceEq,Int.reduceLT,Int.reduceLE,Nat.reduceLT,ti2,ti3,ti4,ti45,ti46,ti38,ti25,ti30,ti22,ti32,ti24,ti95,ti172,ti169,ti165,ti166,ti65,ti143,ti87,ti110,ti56,ti101,ti5,ti159,ti62,ti161,ti51,ti57,ti9, hw]
      refine (specIsSquareOf_c m w ll H9 ⟨by omega, by omega⟩ (o9.rd2 0 rfl) (by omega) (fun r hr => by have := m4 r hr; omega)).to ?_
      refine Holds.mp ?_
      try simp (disch := first | omega | (simp only [ints_length, List.length_replicate, List.length_set]; done) | (simp only [ints_length, List.length_replicate, List.length_set]; omega)) only [Sall,evalOp,init,binE,binI,unE,convE,okNil,builtE,gv,TD.isAgg,resV,↓reduceIte,Nat.reduceEqDiff,reduceCtorEq,Nat.reduceAdd,Nat.reduceMul,Nat.reduceLeDiff,quietOp,blindOp,Int.reduceEq,Int.reduceLT,Int.reduceLE,Nat.reduceLT,ti2,ti3,ti4,ti45,ti46,ti38,ti25,ti30,ti22,ti32,ti24,ti95,ti172,ti169,ti165,ti166,ti65,ti143,ti87,ti110,ti56,ti101,ti5,ti159,ti62,ti161,ti51,ti57,ti9, h0]
      refine (drawCount_c cv nb H9 hnb (hc.up (o9'.old hs))).ex ?_
      rintro k H10 ⟨k1, k2, o10⟩
      refine Holds.mp ?_
      try simp (disch := first | omega | (simp only [ints_length, List.length_replicate, List.length_set]; done) | (simp only [ints_length, List.length_replicate, List.length_set]; omega)) only [Sall,evalOp,init,binE,binI,unE,convE,okNil,builtE,gv,TD.isAgg,resV,↓reduceIte,Nat.reduceEqDiff,reduceCtorEq,Nat.reduceAdd,Nat.reduceMul,Nat.reduceLeDiff,quietOp,blindOp,Int.reduceEq,Int.reduceLT,Int.reduceLE,Nat.reduceLT,ti2,ti3,ti4,ti45,ti46,ti38,ti25,ti30,ti22,ti32,ti24,ti95,ti172,ti169,ti165,ti166,ti65,ti143,ti87,ti110,ti56,ti101,ti5,ti159,ti62,ti161,ti51,ti57,ti9, true_and]
      refine (CountStepSequences_c k H10 ⟨by omega, by omega⟩).to ?_
      refine Holds.mp ?_
      try simp (disch := first | omega | (simp only [ints_length, List.length_replicate, List.length_set]; done) | (simp only [ints_length, List.length_replicate, List.length_set]; omega)) only [Sall,evalOp,init,binE,binI,unE,convE,okNil,builtE,gv,TD.isAgg,resV,↓reduceIte,Nat.reduceEqDiff,reduceCtorEq,Nat.reduceAdd,Nat.reduceMul,Nat.reduceLeDiff,quietOp,blindOp,Int.reduceEq,Int.reduceLT,Int.reduceLE,Nat.reduceLT,ti2,ti3,ti4,ti45,ti46,ti38,ti25,ti30,ti22,ti32,ti24,ti95,ti172,ti169,ti165,ti166,ti65,ti143,ti87,ti110,ti56,ti101,ti5,ti159,ti62,ti161,ti51,ti57,ti9, true_and]
      refine (specCountStepSequences_c k H10 ⟨by omega, by omega⟩).to ?_
      refine Holds.mp ?_
      try simp (disch := first | omega | (simp only [ints_length, List.length_replicate, List.length_set]; done) | (simp only [ints_length, List.length_replicate, List.length_set]; omega)) only [Sall,evalOp,init,binE,binI,unE,convE,okNil,builtE,gv,TD.isAgg,resV,↓reduceIte,Nat.reduceEqDiff,reduceCtorEq,Nat.reduceAdd,Nat.reduceMul,Nat.reduceLeDiff,quietOp,blindOp,Int.reduceEq,Int.reduceLT,Int.reduceLE,Nat.reduceLT,ti2,ti3,ti4,ti45,ti46,ti38,ti25,ti30,ti22,ti32,ti24,ti95,ti172,ti169,ti165,ti166,ti65,ti143,ti87,ti110,ti56,ti101,ti5,ti159,ti62,ti161,ti51,ti57,ti9, beq_self_eq_true]
end Go.Proofs.Ytgkmdfjjlghecaa.A
end

section
set_option linter.unusedVariables false
set_option maxRecDepth 100000
namespace Go.Proofs.Ytgkmdfjjlghecaa.A
open Go Go.Abs Go.RowKit
section
variable {K : Type} {enc : TypeId × Value → K} {W : World} {base b0 : Nat} {spare : Nat → Bool} {held : Bool}

theorem uInt : Try.prog.underlying 2 = some (.int .i64) := by kernel_rfl
theorem uArr : Try.prog.underlying 45 = some (.array 14 2) := by kernel_rfl
theorem uRounds : Try.prog.underlying 22 = some (.slice 45) := by kernel_rfl
theorem cInt : Try.prog.cellsOf 2 = 1 := by kernel_rfl
theorem cArr : Try.prog.cellsOf 45 = 14 := by kernel_rfl
theorem cRounds : Try.prog.cellsOf 22 = 1 := by kernel_rfl
theorem cSched : Try.prog.cellsOf 24 = 2 := by kernel_rfl
theorem fSched : fieldsOf Try.prog 24 = some [(2, 0), (22, 1)] := by kernel_rfl

theorem open_rounds {fuel : Nat} {v : Value} {x : DataW K × List MemPlace} (h : DataW.trod enc Try.prog W base spare held fuel 22 [v] = some x) (hok : Cell.okWide Try.prog W .any 0 22 v) :
    ∃ n l, Rd 14 (given W) v n l ∧ V1 id W.heap.size W v v ∧ n ≤ 9223372036854775807 := by
  have h1 := ok_slice_cell uRounds hok
  obtain ⟨n, l, hr, hv, hh⟩ := trod_ints uRounds cArr (by omega) (intsOf_array uArr uInt cInt cArr) h (h1.imp id fun ⟨b, o, n, c, e, hb, _⟩ => ⟨b, o, n, c, e, hb⟩)
  refine ⟨n, l, hr, hv, ?_⟩
  rcases hh with ⟨_, rfl⟩ | ⟨b, o, c, rfl⟩
  · omega
  · rcases h1 with h1 | ⟨b', o', n', c', e, _, hn⟩
    · cases h1
    · cases e; exact hn

theorem open_sched {fuel : Nat} {c0 c1 : Value} {x : DataW K × List MemPlace} (h : DataW.trod enc Try.prog W base spare held fuel 24 [c0, c1] = some x) (hok : Cell.okWide Try.prog W .any 0 22 c1) :
    ∃ q n l, c0 = .int .i64 q ∧ Rd 14 (given W) c1 n l ∧ V1 id W.heap.size W c1 c1 ∧ n ≤ 9223372036854775807 := by
  obtain ⟨m, hf⟩ := trod_fields fSched h
  obtain ⟨y0, h0⟩ := hf (2, 0) (by simp)
  obtain ⟨y1, h1⟩ := hf (22, 1) (by simp)
  simp only [cInt, cRounds] at h0 h1
  obtain ⟨q, hq, _⟩ := DataW.trod_int uInt h0
  obtain ⟨n, l, hr, hv, hn⟩ := open_rounds h1 hok
  exact ⟨q, n, l, by simpa using hq, hr, hv, hn⟩
end
end Go.Proofs.Ytgkmdfjjlghecaa.A
end

section
set_option linter.unusedVariables false
set_option maxRecDepth 100000
namespace Go.Proofs.Ytgkmdfjjlghecaa.A
open Go Go.Abs Go.RowKit
theorem tSched : Try.prog.cellTypes Try.prog.depth 24 = some [2, 22] := by kernel_rfl
theorem uList : Try.prog.underlying 38 = some (.slice 2) := by kernel_rfl
theorem uLists : Try.prog.underlying 25 = some (.slice 38) := by kernel_rfl
theorem cList : Try.prog.cellsOf 38 = 1 := by kernel_rfl
section
variable {K : Type} {enc : TypeId × Value → K} {W : World} {b0 : Nat} {spare : Nat → Bool} {held : Bool} {v : Value} {d : DataW K} {p : List MemPlace}

theorem open_S (h : DataW.Trod enc Try.prog W 0 spare held 24 v d p) (hok : Value.okWide Try.prog W .any b0 24 v) :
    ∃ q u n l, v = .agg #[.int .i64 q, u] ∧ Rd 14 (given W) u n l ∧ V1 id W.heap.size W u u ∧ n ≤ 9223372036854775807 := by
  obtain ⟨cs, rfl, hs, hc⟩ := ok_struct fSched tSched hok
  rw [cSched] at hs
  obtain ⟨l⟩ := cs
  match l, hs with
  | [c0, c1], _ =>
    obtain ⟨fuel, h⟩ := h
    obtain ⟨e, he, k1⟩ := hc 1 c1 rfl
    cases he
    obtain ⟨q, n, l, rfl, r1, v1, n1⟩ := open_sched h k1
    exact ⟨q, c1, n, l, rfl, r1, v1, n1⟩

theorem open_I (h : DataW.Trod enc Try.prog W 0 spare held 2 v d p) (hok : Value.okWide Try.prog W .any b0 2 v) : ∃ a, v = .int .i64 a ∧ -9223372036854775808 ≤ a ∧ a ≤ 9223372036854775807 := by
  obtain ⟨fuel, h⟩ := h
  obtain ⟨a, ha, hx⟩ := DataW.trod_int uInt h
  unfold Value.okWide at hok
  rw [uInt] at hok
  have h2 : Cell.okWide Try.prog W .any b0 2 v := hok
  unfold Cell.okWide at h2
  rw [uInt] at h2
  have h3 : Cell.ok Try.prog W .any b0 2 v := h2
  unfold Cell.ok at h3
  rw [uInt] at h3
  cases v with
  | int k n =>
    obtain ⟨rfl, h4, h5⟩ := h3
    exact ⟨n, rfl, h4, h5⟩
  | _ => exact False.elim h3

theorem cell_of_val {t e : TypeId} (hu : Try.prog.underlying t = some (.slice e)) (hok : Value.okWide Try.prog W .any b0 t v) : Cell.okWide Try.prog W .any 0 t v := by
  unfold Value.okWide at hok
  rw [hu] at hok
  exact hok

theorem cells_slice1 {t e : TypeId} (hu : Try.prog.underlying t = some (.slice e)) (hok : Cell.okWide Try.prog W .any 0 t v) : v.cells.toList = [v] := by
  rcases ok_slice_cell hu hok with rfl | ⟨b, o, n, c, rfl, _⟩ <;> rfl

theorem open_LL (h : DataW.Trod enc Try.prog W 0 spare held 25 v d p) (hok : Value.okWide Try.prog W .any b0 25 v) :
    ∃ ll, Rd2 1 (given W) v ll ∧ V1 id W.heap.size W v v ∧ ll.length ≤ 9223372036854775807 ∧ ∀ y ∈ ll, y.length ≤ 9223372036854775807 := by
  have h0 := cell_of_val uLists hok
  obtain ⟨fuel, h⟩ := h
  rw [cells_slice1 uLists h0] at h
  obtain ⟨ll, h1, h2, h3, h4⟩ := trod_lists uLists uList uInt cList cInt h (ok_slice_cell uLists h0)
  exact ⟨ll, h1, h2, h3, fun y hy => by have := h4 y hy; unfold Go.maxLen at this; omega⟩

theorem open_L (h : DataW.Trod enc Try.prog W 0 spare held 38 v d p) (hok : Value.okWide Try.prog W .any b0 38 v) :
    ∃ n l, Rd 1 (given W) v n l ∧ V1 id W.heap.size W v v ∧ n ≤ 9223372036854775807 := by
  have h0 := cell_of_val uList hok
  obtain ⟨fuel, h⟩ := h
  rw [cells_slice1 uList h0] at h
  have h1 := ok_slice_cell uList h0
  obtain ⟨n, l, hr, hv, hh⟩ := trod_ints uList cInt (by omega) (intsOf_int uInt) h (h1.imp id fun ⟨b, o, n, c, e, hb, _⟩ => ⟨b, o, n, c, e, hb⟩)
  refine ⟨n, l, hr, hv, ?_⟩
  rcases hh with ⟨_, rfl⟩ | ⟨b, o, c, rfl⟩
  · omega
  · rcases h1 with h1 | ⟨b', o', n', c', e, _, hn⟩
    · cases h1
    · cases e; exact hn
end
end Go.Proofs.Ytgkmdfjjlghecaa.A
end

section
set_option linter.unusedVariables false
set_option maxRecDepth 100000
namespace Go.Proofs.Ytgkmdfjjlghecaa.A
open Go Go.Abs Go.RowKit
theorem uByte : Try.prog.underlying 5 = some (.int .u8) := by kernel_rfl
theorem uBytes : Try.prog.underlying 62 = some (.slice 5) := by kernel_rfl
theorem cByte : Try.prog.cellsOf 5 = 1 := by kernel_rfl
section
variable {K : Type} {enc : TypeId × Value → K} {W : World} {b0 : Nat} {spare : Nat → Bool} {held : Bool} {v : Value} {d : DataW K} {p : List MemPlace}
theorem open_B (h : DataW.Trod enc Try.prog W 0 spare held 62 v d p) (hok : Value.okWide Try.prog W .any b0 62 v) :
    ∃ nb, CodeOk (given W) v nb ∧ V1 id W.heap.size W v v ∧ nb ≤ 9223372036854775807 := by
  have h0 := cell_of_val uBytes hok
  obtain ⟨fuel, h⟩ := h
  rw [cells_slice1 uBytes h0] at h
  rcases ok_slice_cell uBytes h0 with rfl | ⟨b, o, n, c, rfl, hb, hn⟩
  · exact ⟨0, .inl ⟨rfl, _, _, rfl⟩, .scal _ rfl, by omega⟩
  · refine ⟨n, ?_, V1.sle (ρ := id) b o n c hb, hn⟩
    rcases DataW.trod_slice uBytes h with ⟨h0, _⟩ | ⟨a, len, cap, elems, rest, m, _, hcs, _, _, _, _, hlen, hel, _, _⟩
    · simp at h0
    · simp only [List.cons.injEq, Value.slice.injEq, Option.some.injEq, and_true] at hcs
      obtain ⟨rfl, rfl, rfl⟩ := hcs
      have each : ∀ j, j < n → ∃ z, W.cell? ⟨b, o + j, none⟩ = some (.int .u8 z) ∧ 0 ≤ z ∧ z ≤ 255 := by
        intro j hj
        have h1 := hel j hj
        rw [List.getElem?_eq_getElem (by omega), cByte, Option.bind_eq_some_iff] at h1
        obtain ⟨cs', hc1, hc2⟩ := h1
        obtain ⟨_, hl, hc⟩ := World.cells?_some hc1
        have h2 := hc 0 (by omega)
        obtain ⟨z, hz, _, hw⟩ := DataW.trod_int uByte hc2
        refine ⟨z, ?_, ?_⟩
        · rw [hz] at h2
          rw [Addr.add_lit, Addr.add_lit] at h2
          simpa using h2
        · unfold Lit.wf at hw
          simp only [Bool.and_eq_true, decide_eq_true_eq] at hw
          exact hw
      rcases Nat.eq_zero_or_pos n with h0 | h0
      · exact .inl ⟨h0, _, _, by rw [h0]⟩
      · refine .inr ⟨b, o, none, c, ⟨0, false, absRow W b⟩, rfl, ?_, fun j hj => ?_⟩
        · obtain ⟨z, hz, _⟩ := each 0 h0
          exact (given_cell hz).2.1
        · obtain ⟨z, hz, z1, z2⟩ := each j hj
          exact ⟨z, (given_cell hz).2.2, z1, z2⟩
end
end Go.Proofs.Ytgkmdfjjlghecaa.A
end
