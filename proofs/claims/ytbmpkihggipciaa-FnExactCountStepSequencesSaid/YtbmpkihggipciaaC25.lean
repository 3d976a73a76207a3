/- Contracts: steps, numbers that are different, IsStepSequence on both sides. -/
import Derived.Test.YtbmpkihggipciaaC18
import Derived.Test.YtbmpkihggipciaaC22
import Derived.Test.YtbmpkihggipciaaSo4
import Derived.Test.YtbmpkihggipciaaPl13
set_option linter.unusedSimpArgs false
set_option linter.unusedVariables false
set_option maxRecDepth 100000
set_option maxHeartbeats 2000000
--LEN ints_length, List.length_replicate, List.length_set, stpL_length
namespace Go.Proofs.Ytbmpkihggipciaa.A
open Go Go.Abs Go.RowKit

theorem areDifferent_c (v : Value) (y : List Int) (H : AH) (hv : Rd 1 H v y.length y) (hy : y.length ≤ 4194304) :
    ACalls Try.prog 88 [v] H (is (.bool (diffB y)) H) := by
  refine acalls_up rfl (ACalls.wf (by kernel_rfl) fun hs => acalls_of_awp [.tmp 2] Try.func88 (by kernel_rfl) rfl rfl (Nat.le_of_ble_eq_true rfl) (by kernel_rfl) ?_)
  try simp (disch := first | omega | (simp only [ints_length, List.length_replicate, List.length_set, stpL_length]; done) | (simp only [ints_length, List.length_replicate, List.length_set, stpL_length]; omega)) only [Sall,evalOp,init,binE,binI,unE,convE,okNil,builtE,gv,TD.isAgg,resV,↓reduceIte,Nat.reduceEqDiff,reduceCtorEq,Nat.reduceAdd,Nat.reduceMul,Nat.reduceLeDiff,quietOp,blindOp,Int.reduceEq,Int.reduceLT,Int.reduceLE,Nat.reduceLT,ti2,ti3,ti4,ti79,ti80,ti28,ti25,ti31,ti22,ti33,ti24,ti67,ti111,ti100, true_and]
  refine (values_c v H hv.one).to ?_
  try simp (disch := first | omega | (simp only [ints_length, List.length_replicate, List.length_set, stpL_length]; done) | (simp only [ints_length, List.length_replicate, List.length_set, stpL_length]; omega)) only [Sall,evalOp,init,binE,binI,unE,convE,okNil,builtE,gv,TD.isAgg,resV,↓reduceIte,Nat.reduceEqDiff,reduceCtorEq,Nat.reduceAdd,Nat.reduceMul,Nat.reduceLeDiff,quietOp,blindOp,Int.reduceEq,Int.reduceLT,Int.reduceLE,Nat.reduceLT,ti2,ti3,ti4,ti79,ti80,ti28,ti25,ti31,ti22,ti33,ti24,ti67,ti111,ti100, true_and]
  have up : Up H.next H (H.push ⟨28, true, [v]⟩) := (Up.refl _ H).push (Nat.le_refl _) _
  have e1 : (H.push ⟨28, true, [v]⟩).row H.next = some ⟨28, true, [v]⟩ := by rw [AH.push_row, if_pos rfl]
  have n1 : (H.push ⟨28, true, [v]⟩).next = H.next + 1 := rfl
  revert up e1 n1
  generalize H.push ⟨28, true, [v]⟩ = H1
  intro up e1 n1
  refine (sorted_c H.next v y H1 e1 (hv.same (up.le hs).row) (by omega)).mono ?_
  rintro u H2 ⟨up2, hf⟩
  have hl2 := sortedL_length y
  have n2 := up2.next
  have u2 : Up H.next H H2 := up.trans up2 (by omega)
  have hf' : Fr 1 2 H1.next H2.next H2 u (sortedL y).length (sortedL y) := by rw [hl2]; exact hf
  refine Holds.mp ?_
  try simp (disch := first | omega | (simp only [ints_length, List.length_replicate, List.length_set, stpL_length]; done) | (simp only [ints_length, List.length_replicate, List.length_set, stpL_length]; omega)) only [Sall,evalOp,init,binE,binI,unE,convE,okNil,builtE,gv,TD.isAgg,resV,↓reduceIte,Nat.reduceEqDiff,reduceCtorEq,Nat.reduceAdd,Nat.reduceMul,Nat.reduceLeDiff,quietOp,blindOp,Int.reduceEq,Int.reduceLT,Int.reduceLE,Nat.reduceLT,ti2,ti3,ti4,ti79,ti80,ti28,ti25,ti31,ti22,ti33,ti24,ti67,ti111,ti100, true_and]
  refine (containsI_c u (sortedL y) 0 H2 hf'.rd (by omega)).to ?_
  rw [contains_sorted]
  unfold diffB
  cases hc : y.contains 0 with
  | true =>
    try simp (disch := first | omega | (simp only [ints_length, List.length_replicate, List.length_set, stpL_length]; done) | (simp only [ints_length, List.length_replicate, List.length_set, stpL_length]; omega)) only [Sall,evalOp,init,binE,binI,unE,convE,okNil,builtE,gv,TD.isAgg,resV,↓reduceIte,Nat.reduceEqDiff,reduceCtorEq,Nat.reduceAdd,Nat.reduceMul,Nat.reduceLeDiff,quietOp,blindOp,Int.reduceEq,Int.reduceLT,Int.reduceLE,Nat.reduceLT,ti2,ti3,ti4,ti79,ti80,ti28,ti25,ti31,ti22,ti33,ti24,ti67,ti111,ti100, Bool.not_true, Bool.false_and]
    exact u2
  | false =>
    try simp (disch := first | omega | (simp only [ints_length, List.length_replicate, List.length_set, stpL_length]; done) | (simp only [ints_length, List.length_replicate, List.length_set, stpL_length]; omega)) only [Sall,evalOp,init,binE,binI,unE,convE,okNil,builtE,gv,TD.isAgg,resV,↓reduceIte,Nat.reduceEqDiff,reduceCtorEq,Nat.reduceAdd,Nat.reduceMul,Nat.reduceLeDiff,quietOp,blindOp,Int.reduceEq,Int.reduceLT,Int.reduceLE,Nat.reduceLT,ti2,ti3,ti4,ti79,ti80,ti28,ti25,ti31,ti22,ti33,ti24,ti67,ti111,ti100, Bool.not_false]
    refine (cloneI_c u (sortedL y) H2 (Cp.of_fr hf') (by omega)).mono ?_
    rintro w H3 ⟨up3, hw⟩
    have n3 := up3.next
    refine Holds.mp ?_
    try simp (disch := first | omega | (simp only [ints_length, List.length_replicate, List.length_set, stpL_length]; done) | (simp only [ints_length, List.length_replicate, List.length_set, stpL_length]; omega)) only [Sall,evalOp,init,binE,binI,unE,convE,okNil,builtE,gv,TD.isAgg,resV,↓reduceIte,Nat.reduceEqDiff,reduceCtorEq,Nat.reduceAdd,Nat.reduceMul,Nat.reduceLeDiff,quietOp,blindOp,Int.reduceEq,Int.reduceLT,Int.reduceLE,Nat.reduceLT,ti2,ti3,ti4,ti79,ti80,ti28,ti25,ti31,ti22,ti33,ti24,ti67,ti111,ti100, true_and]
    refine (compact_c w (sortedL y) H2.next H3.next H3 hw (by omega)).mono ?_
    rintro z H4 ⟨hzl, n4, r4⟩
    have hf4 : Fr 1 2 H1.next H2.next H4 u (sortedL y).length (sortedL y) := hf'.same fun i _ hi => by rw [r4 i (by omega), up3.row i (by omega)]
    have hcs := compact_sorted y
    refine Holds.mp ?_
    try simp (disch := first | omega | (simp only [ints_length, List.length_replicate, List.length_set, stpL_length]; done) | (simp only [ints_length, List.length_replicate, List.length_set, stpL_length]; omega)) only [Sall,evalOp,init,binE,binI,unE,convE,okNil,builtE,gv,TD.isAgg,resV,↓reduceIte,Nat.reduceEqDiff,reduceCtorEq,Nat.reduceAdd,Nat.reduceMul,Nat.reduceLeDiff,quietOp,blindOp,Int.reduceEq,Int.reduceLT,Int.reduceLE,Nat.reduceLT,ti2,ti3,ti4,ti79,ti80,ti28,ti25,ti31,ti22,ti33,ti24,ti67,ti111,ti100, builtE, hf4.rd.len, hzl, hl2]
    exact ⟨by rw [hcs, Bool.true_and], ⟨by omega, fun i hi => by rw [r4 i (by omega), up3.row i (by omega), u2.row i hi]⟩⟩

theorem steps_c (n : Nat) (hn : 1 ≤ n ∧ n ≤ 1024) (v : Value) (y : List Int) (H : AH) (hv : Rd 1 H v y.length y) (hy : y.length ≤ 4194304) (hin : ∀ x ∈ y, 0 ≤ x ∧ x < n) :
    ACalls Try.prog 89 [v, .int .i64 n] H (fun u H' => Up H.next H H' ∧ Fr 1 2 H.next H'.next H' u (stpL n y).length (stpL n y)) := by
  refine ACalls.wf (by kernel_rfl) fun hs => acalls_of_awp [.tmp 4] Try.func89 (by kernel_rfl) rfl rfl (Nat.le_of_ble_eq_true rfl) (by kernel_rfl) ?_
  have hsl := stpL_length n y
  try simp (disch := first | omega | (simp only [ints_length, List.length_replicate, List.length_set, stpL_length]; done) | (simp only [ints_length, List.length_replicate, List.length_set, stpL_length]; omega)) only [Sall,evalOp,init,binE,binI,unE,convE,okNil,builtE,gv,TD.isAgg,resV,↓reduceIte,Nat.reduceEqDiff,reduceCtorEq,Nat.reduceAdd,Nat.reduceMul,Nat.reduceLeDiff,quietOp,blindOp,Int.reduceEq,Int.reduceLT,Int.reduceLE,Nat.reduceLT,ti2,ti3,ti4,ti79,ti80,ti28,ti25,ti31,ti22,ti33,ti24,ti67,ti111,ti100, zeros_zero]
  refine awp_loop (fun m t H' => ∃ (a : Nat) (u : Value) (lo hi : Nat), m = y.length - 1 - a ∧ a ≤ y.length - 1 ∧ t 6 = .int .i64 ((a : Int) + 1) ∧ t 5 = u ∧ t 0 = v ∧ t 1 = .int .i64 n ∧ Up H.next H H' ∧ H.next ≤ lo ∧ lo ≤ hi ∧ hi ≤ H'.next ∧ Fr 1 2 lo hi H' u a ((stpL n y).take a)) (y.length - 1) ?_ ?_
  · refine ⟨0, .slice (some ⟨H.next, 0, some 1⟩) 0 0, H.next, H.next + 1, by omega, by omega, ?_⟩
    try simp (disch := first | omega | (simp only [ints_length, List.length_replicate, List.length_set, stpL_length]; done) | (simp only [ints_length, List.length_replicate, List.length_set, stpL_length]; omega)) only [Sall,evalOp,init,binE,binI,unE,convE,okNil,builtE,gv,TD.isAgg,resV,↓reduceIte,Nat.reduceEqDiff,reduceCtorEq,Nat.reduceAdd,Nat.reduceMul,Nat.reduceLeDiff,quietOp,blindOp,Int.reduceEq,Int.reduceLT,Int.reduceLE,Nat.reduceLT,ti2,ti3,ti4,ti79,ti80,ti28,ti25,ti31,ti22,ti33,ti24,ti67,ti111,ti100, Int.natCast_zero, Int.zero_add, List.take_zero]
    refine ⟨(Up.refl _ H).push (by omega) _, ?_⟩
    (repeat refine And.intro (by omega) ?_)
    exact ⟨rfl, .inr ⟨H.next, Nat.le_refl _, Nat.lt_succ_self _, rfl, by rw [AH.push_row, if_pos rfl]; rfl⟩⟩
  · rintro m t H' ⟨a, u, lo, hi, hm, han, h6, h5, h0, h1, hup, hlo, hlh, hhi, hu⟩
    have hup1 := hup.next
    have hv' : Rd 1 H' v y.length y := hv.same (hup.le hs).row
    try simp (disch := first | omega | (simp only [ints_length, List.length_replicate, List.length_set, stpL_length]; done) | (simp only [ints_length, List.length_replicate, List.length_set, stpL_length]; omega)) only [Sall,evalOp,init,binE,binI,unE,convE,okNil,builtE,gv,TD.isAgg,resV,↓reduceIte,Nat.reduceEqDiff,reduceCtorEq,Nat.reduceAdd,Nat.reduceMul,Nat.reduceLeDiff,quietOp,blindOp,Int.reduceEq,Int.reduceLT,Int.reduceLE,Nat.reduceLT,ti2,ti3,ti4,ti79,ti80,ti28,ti25,ti31,ti22,ti33,ti24,ti67,ti111,ti100, h6, h0, builtE, hv'.len]
    refine condC_dec (fun h => ?_) (fun h => ?_)
    · obtain ⟨i, o, uu, cc, r, rfl, hr, hc, hg, _⟩ := hv'.get (by omega)
      have g0 := hg a (by omega)
      have g1 := hg (a + 1) (by omega)
      have x0 := hin (y.getD a 0) (by rw [List.getD_eq_getElem?_getD, List.getElem?_eq_getElem (by omega)]; exact List.getElem_mem _)
      have x1 := hin (y.getD (a + 1) 0) (by rw [List.getD_eq_getElem?_getD, List.getElem?_eq_getElem (by omega)]; exact List.getElem_mem _)
      have hst := stpI_impl x0 x1
      have htk := stpL_take n y a (by omega)
      have hsr := stpI_range (show 0 < n by omega) (y.getD a 0) (y.getD (a + 1) 0)
      revert g0 g1 x0 x1 hst htk hsr
      generalize y.getD a 0 = p
      generalize y.getD (a + 1) 0 = q
      generalize stpI n p q = e
      intro g0 g1 x0 x1 hst htk hsr
      have zz : zeros 1 [.int .i64 0] = [.int .i64 0] := rfl
      have ea : (a : Int) + 1 - 1 = a := by omega
      have ec : ((a : Int) + 1).toNat = a + 1 := by omega
      refine draw_id (by kernel_rfl) (by kernel_rfl) ?_
      try simp (disch := first | omega | (simp only [ints_length, List.length_replicate, List.length_set, stpL_length]; done) | (simp only [ints_length, List.length_replicate, List.length_set, stpL_length]; omega)) only [Sall,evalOp,init,binE,binI,unE,convE,okNil,builtE,gv,TD.isAgg,resV,↓reduceIte,Nat.reduceEqDiff,reduceCtorEq,Nat.reduceAdd,Nat.reduceMul,Nat.reduceLeDiff,quietOp,blindOp,Int.reduceEq,Int.reduceLT,Int.reduceLE,Nat.reduceLT,ti2,ti3,ti4,ti79,ti80,ti28,ti25,ti31,ti22,ti33,ti24,ti67,ti111,ti100, h6, h5, h0, h1, hr, ea, ec, Int.toNat_natCast, g0, g1, zz, slCells, w64, hst]
      (repeat refine And.intro (by omega) ?_)
      refine ⟨.inr (.inl (by kernel_rfl)), ?_⟩
      obtain ⟨H4, e4⟩ : ∃ H4, H4 = H'.push ⟨2, true, [.int .i64 e]⟩ := ⟨_, rfl⟩
      have n4 : H4.next = H'.next + 1 := by rw [e4]; rfl
      have s4 : ∀ i, i < H'.next → H4.row i = H'.row i := fun i hi => by rw [e4, AH.push_row, if_neg (by omega)]
      rw [← e4]
      clear e4
      refine appE_fr (k := 1) (lo := lo) (hi := hi) (l := (stpL n y).take a) (m := [e]) (hu.same fun i _ hi => s4 i (by omega)) rfl (by omega) rfl (by omega) (by decide) (by omega) (by omega) ?_
      intro v' H5 n5 s5 f5
      refine ⟨.inr (.inl (by kernel_rfl)), ?_⟩
      try simp (disch := first | omega | (simp only [ints_length, List.length_replicate, List.length_set, stpL_length]; done) | (simp only [ints_length, List.length_replicate, List.length_set, stpL_length]; omega)) only [Sall,evalOp,init,binE,binI,unE,convE,okNil,builtE,gv,TD.isAgg,resV,↓reduceIte,Nat.reduceEqDiff,reduceCtorEq,Nat.reduceAdd,Nat.reduceMul,Nat.reduceLeDiff,quietOp,blindOp,Int.reduceEq,Int.reduceLT,Int.reduceLE,Nat.reduceLT,ti2,ti3,ti4,ti79,ti80,ti28,ti25,ti31,ti22,ti33,ti24,ti67,ti111,ti100, h6, h0, h1, w64]
      refine ⟨y.length - 1 - (a + 1), by omega, a + 1, v', H4.next, H4.next + 1, rfl, by omega, by omega, rfl, ⟨by omega, fun i hi => by rw [s5 i (by omega) (by omega), s4 i (by omega), hup.row i hi]⟩, by omega, by omega, by omega, ?_⟩
      rw [htk]; exact f5
    · try simp (disch := first | omega | (simp only [ints_length, List.length_replicate, List.length_set, stpL_length]; done) | (simp only [ints_length, List.length_replicate, List.length_set, stpL_length]; omega)) only [Sall,evalOp,init,binE,binI,unE,convE,okNil,builtE,gv,TD.isAgg,resV,↓reduceIte,Nat.reduceEqDiff,reduceCtorEq,Nat.reduceAdd,Nat.reduceMul,Nat.reduceLeDiff,quietOp,blindOp,Int.reduceEq,Int.reduceLT,Int.reduceLE,Nat.reduceLT,ti2,ti3,ti4,ti79,ti80,ti28,ti25,ti31,ti22,ti33,ti24,ti67,ti111,ti100, h5]
      have ha : a = y.length - 1 := by omega
      subst ha
      rw [← hsl, List.take_length] at hu
      exact ⟨hup, hu.wide hlo hhi⟩
theorem l03Mod_c (n : Nat) (hn : 1 ≤ n ∧ n ≤ 1024) (a b : Int) (ha : 0 ≤ a ∧ a < n) (hb : 0 ≤ b ∧ b < n) (H : AH) :
    ACalls Try.prog 145 [.int .i64 (b - a), .int .i64 n] H (is (.int .i64 (stpI n a b)) H) := by
  refine acalls_of_awp [.tmp 4] Try.func145 (by kernel_rfl) rfl rfl (Nat.le_of_ble_eq_true rfl) (by kernel_rfl) ?_
  have h1 := stpI_spec (show 0 < n by omega) a b
  have h2 : -(n : Int) < Int.tmod (b - a) n := by
    have := Int.lt_tmod_of_pos (b - a) (show (0 : Int) < n by omega)
    omega
  have h3 : Int.tmod (b - a) n < n := Int.tmod_lt_of_pos _ (by omega)
  have h4 := stpI_range (show 0 < n by omega) a b
  try simp (disch := first | omega | (simp only [ints_length, List.length_replicate, List.length_set, stpL_length]; done) | (simp only [ints_length, List.length_replicate, List.length_set, stpL_length]; omega)) only [Sall,evalOp,init,binE,binI,unE,convE,okNil,builtE,gv,TD.isAgg,resV,↓reduceIte,Nat.reduceEqDiff,reduceCtorEq,Nat.reduceAdd,Nat.reduceMul,Nat.reduceLeDiff,quietOp,blindOp,Int.reduceEq,Int.reduceLT,Int.reduceLE,Nat.reduceLT,ti2,ti3,ti4,ti79,ti80,ti28,ti25,ti31,ti22,ti33,ti24,ti67,ti111,ti100, w64, h1, is]
  omega

theorem l09Step_c (n : Nat) (hn : 1 ≤ n ∧ n ≤ 1024) (v : Value) (y : List Int) (H : AH) (hv : Rd 1 H v y.length y) (hy : y.length ≤ 4194304) (hin : ∀ x ∈ y, 0 ≤ x ∧ x < n) :
    ACalls Try.prog 91 [v, .int .i64 n] H (is (.bool (stpB n y)) H) := by
  refine acalls_up rfl (ACalls.wf (by kernel_rfl) fun hs => acalls_of_awp [.tmp 4] Try.func91 (by kernel_rfl) rfl rfl (Nat.le_of_ble_eq_true rfl) (by kernel_rfl) ?_)
  have hsl := stpL_length n y
  try simp (disch := first | omega | (simp only [ints_length, List.length_replicate, List.length_set, stpL_length]; done) | (simp only [ints_length, List.length_replicate, List.length_set, stpL_length]; omega)) only [Sall,evalOp,init,binE,binI,unE,convE,okNil,builtE,gv,TD.isAgg,resV,↓reduceIte,Nat.reduceEqDiff,reduceCtorEq,Nat.reduceAdd,Nat.reduceMul,Nat.reduceLeDiff,quietOp,blindOp,Int.reduceEq,Int.reduceLT,Int.reduceLE,Nat.reduceLT,ti2,ti3,ti4,ti79,ti80,ti28,ti25,ti31,ti22,ti33,ti24,ti67,ti111,ti100, zeros_bools, ← metL_nil]
  (repeat refine And.intro (by omega) ?_)
  refine awp_loop (fun m t H' => ∃ a : Nat, m = y.length - 1 - a ∧ a ≤ y.length - 1 ∧ t 6 = .int .i64 ((a : Int) + 1) ∧ t 5 = .slice (some ⟨H.next, 0, some 1⟩) n n ∧ t 0 = v ∧ t 1 = .int .i64 n ∧ H.next < H'.next ∧ (∀ i, i < H.next → H'.row i = H.row i) ∧ H'.row H.next = some ⟨4, true, bools (metL n ((stpL n y).take a))⟩ ∧ ((stpL n y).take a).Nodup) (y.length - 1) ?_ ?_
  · refine ⟨0, by omega, by omega, ?_⟩
    try simp (disch := first | omega | (simp only [ints_length, List.length_replicate, List.length_set, stpL_length]; done) | (simp only [ints_length, List.length_replicate, List.length_set, stpL_length]; omega)) only [Sall,evalOp,init,binE,binI,unE,convE,okNil,builtE,gv,TD.isAgg,resV,↓reduceIte,Nat.reduceEqDiff,reduceCtorEq,Nat.reduceAdd,Nat.reduceMul,Nat.reduceLeDiff,quietOp,blindOp,Int.reduceEq,Int.reduceLT,Int.reduceLE,Nat.reduceLT,ti2,ti3,ti4,ti79,ti80,ti28,ti25,ti31,ti22,ti33,ti24,ti67,ti111,ti100, Int.natCast_zero, Int.zero_add, List.take_zero]
    exact ⟨by omega, fun i hi => by rw [if_neg (by omega)], by simp⟩
  · rintro m t H' ⟨a, hm, han, h6, h5, h0, h1, hnx, hrows, hrow, hnd⟩
    have up : Up H.next H H' := ⟨by omega, hrows⟩
    have hv' : Rd 1 H' v y.length y := hv.same (up.le hs).row
    try simp (disch := first | omega | (simp only [ints_length, List.length_replicate, List.length_set, stpL_length]; done) | (simp only [ints_length, List.length_replicate, List.length_set, stpL_length]; omega)) only [Sall,evalOp,init,binE,binI,unE,convE,okNil,builtE,gv,TD.isAgg,resV,↓reduceIte,Nat.reduceEqDiff,reduceCtorEq,Nat.reduceAdd,Nat.reduceMul,Nat.reduceLeDiff,quietOp,blindOp,Int.reduceEq,Int.reduceLT,Int.reduceLE,Nat.reduceLT,ti2,ti3,ti4,ti79,ti80,ti28,ti25,ti31,ti22,ti33,ti24,ti67,ti111,ti100, h6, h0, builtE, hv'.len]
    refine condC_dec (fun h => ?_) (fun h => ?_)
    · have hbad := stpB_bad (n := n) (y := y) (i := a) (by omega)
      have htk := stpL_take n y a (by omega)
      have hir : ∀ i r, H.row i = some r → H'.row i = some r := fun i r hr => by rw [hrows i (hs _ _ hr)]; exact hr
      obtain ⟨i, o, uu, cc, r, rfl, hr, hc, hg, _⟩ := hv.get (by omega)
      have ne : ¬ i = H.next := by have := hs _ _ hr; omega
      replace hr := hir _ _ hr
      have g0 := hg a (by omega)
      have g1 := hg (a + 1) (by omega)
      have x0 := hin (y.getD a 0) (by rw [List.getD_eq_getElem?_getD, List.getElem?_eq_getElem (by omega)]; exact List.getElem_mem _)
      have x1 := hin (y.getD (a + 1) 0) (by rw [List.getD_eq_getElem?_getD, List.getElem?_eq_getElem (by omega)]; exact List.getElem_mem _)
      have hsr := stpI_range (show 0 < n by omega) (y.getD a 0) (y.getD (a + 1) 0)
      have hmod := l03Mod_c n hn (y.getD a 0) (y.getD (a + 1) 0) x0 x1 H'
      revert g0 g1 x0 x1 htk hsr hmod hbad
      generalize y.getD a 0 = p
      generalize y.getD (a + 1) 0 = q
      generalize stpI n p q = e
      intro hbad htk g0 g1 x0 x1 hsr hmod
      have ea : (a : Int) + 1 - 1 = a := by omega
      have ec : ((a : Int) + 1).toNat = a + 1 := by omega
      have g2 := metL_get? n ((stpL n y).take a) e hsr
      have g3 := metL_put n ((stpL n y).take a) e hsr
      refine draw_id (by kernel_rfl) (by kernel_rfl) ?_
      try simp (disch := first | omega | (simp only [ints_length, List.length_replicate, List.length_set, stpL_length]; done) | (simp only [ints_length, List.length_replicate, List.length_set, stpL_length]; omega)) only [Sall,evalOp,init,binE,binI,unE,convE,okNil,builtE,gv,TD.isAgg,resV,↓reduceIte,Nat.reduceEqDiff,reduceCtorEq,Nat.reduceAdd,Nat.reduceMul,Nat.reduceLeDiff,quietOp,blindOp,Int.reduceEq,Int.reduceLT,Int.reduceLE,Nat.reduceLT,ti2,ti3,ti4,ti79,ti80,ti28,ti25,ti31,ti22,ti33,ti24,ti67,ti111,ti100, h6, h5, h0, h1, hr, ea, ec, Int.toNat_natCast, g0, g1, w64]
      (repeat refine And.intro (by omega) ?_)
      refine hmod.to ?_
      cases hct : ((stpL n y).take a).contains e with
      | true =>
        rw [hct] at g2
        try simp (disch := first | omega | (simp only [ints_length, List.length_replicate, List.length_set, stpL_length]; done) | (simp only [ints_length, List.length_replicate, List.length_set, stpL_length]; omega)) only [Sall,evalOp,init,binE,binI,unE,convE,okNil,builtE,gv,TD.isAgg,resV,↓reduceIte,Nat.reduceEqDiff,reduceCtorEq,Nat.reduceAdd,Nat.reduceMul,Nat.reduceLeDiff,quietOp,blindOp,Int.reduceEq,Int.reduceLT,Int.reduceLE,Nat.reduceLT,ti2,ti3,ti4,ti79,ti80,ti28,ti25,ti31,ti22,ti33,ti24,ti67,ti111,ti100, h6, h5, h0, h1, hrow, g2, w64]
        exact ⟨.inr (.inr (LE.refl _)), hsr, (hbad hct).symm, up⟩
      | false =>
        rw [hct] at g2
        try simp (disch := first | omega | (simp only [ints_length, List.length_replicate, List.length_set, stpL_length]; done) | (simp only [ints_length, List.length_replicate, List.length_set, stpL_length]; omega)) only [Sall,evalOp,init,binE,binI,unE,convE,okNil,builtE,gv,TD.isAgg,resV,↓reduceIte,Nat.reduceEqDiff,reduceCtorEq,Nat.reduceAdd,Nat.reduceMul,Nat.reduceLeDiff,quietOp,blindOp,Int.reduceEq,Int.reduceLT,Int.reduceLE,Nat.reduceLT,ti2,ti3,ti4,ti79,ti80,ti28,ti25,ti31,ti22,ti33,ti24,ti67,ti111,ti100, h6, h5, h0, h1, hrow, g2, g3, w64]
        refine ⟨.inr (.inr (LE.refl _)), hsr, hsr, by rw [bools_length, metL_length]; omega, y.length - 1 - (a + 1), by omega, a + 1, rfl, by omega, by omega, hnx, fun i hi => by rw [if_neg (by omega)]; exact hrows i hi, by rw [htk], ?_⟩
        rw [htk]
        exact nodup_snoc.2 ⟨hnd, fun hm => by rw [List.contains_iff_mem.2 hm] at hct; cases hct⟩
    · have ha : a = y.length - 1 := by omega
      subst ha
      rw [← hsl, List.take_length] at hnd
      have e : stpB n y = true := decide_eq_true hnd
      try simp (disch := first | omega | (simp only [ints_length, List.length_replicate, List.length_set, stpL_length]; done) | (simp only [ints_length, List.length_replicate, List.length_set, stpL_length]; omega)) only [Sall,evalOp,init,binE,binI,unE,convE,okNil,builtE,gv,TD.isAgg,resV,↓reduceIte,Nat.reduceEqDiff,reduceCtorEq,Nat.reduceAdd,Nat.reduceMul,Nat.reduceLeDiff,quietOp,blindOp,Int.reduceEq,Int.reduceLT,Int.reduceLE,Nat.reduceLT,ti2,ti3,ti4,ti79,ti80,ti28,ti25,ti31,ti22,ti33,ti24,ti67,ti111,ti100, e]
      exact up
/-- What IsStepSequence answers. -/
def isqB (y : List Int) : Bool := listB y && stpB y.length y
def isqC (y : List Int) : Int := if listB y = true then 0 else 2

theorem IsStepSequence_c (v : Value) (n : Nat) (y : List Int) (H : AH) (hv : Rd 1 H v n y) (hy : n ≤ 4294967296) :
    ACalls Try.prog 40 [v] H (is (.tuple #[.bool (isqB y), .int .i64 (isqC y)]) H) := by
  have e := hv.lenK1
  subst e
  refine acalls_up (by simp [flat, Abs.scal]) (ACalls.wf (by kernel_rfl) fun hs => acalls_of_awp [.tmp 2, .tmp 3] Try.func40 (by kernel_rfl) rfl rfl (Nat.le_of_ble_eq_true rfl) (by kernel_rfl) ?_)
  try simp (disch := first | omega | (simp only [ints_length, List.length_replicate, List.length_set, stpL_length]; done) | (simp only [ints_length, List.length_replicate, List.length_set, stpL_length]; omega)) only [Sall,evalOp,init,binE,binI,unE,convE,okNil,builtE,gv,TD.isAgg,resV,↓reduceIte,Nat.reduceEqDiff,reduceCtorEq,Nat.reduceAdd,Nat.reduceMul,Nat.reduceLeDiff,quietOp,blindOp,Int.reduceEq,Int.reduceLT,Int.reduceLE,Nat.reduceLT,ti2,ti3,ti4,ti79,ti80,ti28,ti25,ti31,ti22,ti33,ti24,ti67,ti111,ti100, true_and]
  refine (isList_c v y H hv hy).to ?_
  unfold isqB isqC
  cases hb : listB y with
  | false =>
    try simp (disch := first | omega | (simp only [ints_length, List.length_replicate, List.length_set, stpL_length]; done) | (simp only [ints_length, List.length_replicate, List.length_set, stpL_length]; omega)) only [Sall,evalOp,init,binE,binI,unE,convE,okNil,builtE,gv,TD.isAgg,resV,↓reduceIte,Nat.reduceEqDiff,reduceCtorEq,Nat.reduceAdd,Nat.reduceMul,Nat.reduceLeDiff,quietOp,blindOp,Int.reduceEq,Int.reduceLT,Int.reduceLE,Nat.reduceLT,ti2,ti3,ti4,ti79,ti80,ti28,ti25,ti31,ti22,ti33,ti24,ti67,ti111,ti100, Bool.not_false, Bool.false_and]
    exact Up.refl _ _
  | true =>
    obtain ⟨hlen, hin, hnd⟩ := listB_at hb
    try simp (disch := first | omega | (simp only [ints_length, List.length_replicate, List.length_set, stpL_length]; done) | (simp only [ints_length, List.length_replicate, List.length_set, stpL_length]; omega)) only [Sall,evalOp,init,binE,binI,unE,convE,okNil,builtE,gv,TD.isAgg,resV,↓reduceIte,Nat.reduceEqDiff,reduceCtorEq,Nat.reduceAdd,Nat.reduceMul,Nat.reduceLeDiff,quietOp,blindOp,Int.reduceEq,Int.reduceLT,Int.reduceLE,Nat.reduceLT,ti2,ti3,ti4,ti79,ti80,ti28,ti25,ti31,ti22,ti33,ti24,ti67,ti111,ti100, Bool.not_true]
    refine (size_c v y H hv hy).to ?_
    try simp (disch := first | omega | (simp only [ints_length, List.length_replicate, List.length_set, stpL_length]; done) | (simp only [ints_length, List.length_replicate, List.length_set, stpL_length]; omega)) only [Sall,evalOp,init,binE,binI,unE,convE,okNil,builtE,gv,TD.isAgg,resV,↓reduceIte,Nat.reduceEqDiff,reduceCtorEq,Nat.reduceAdd,Nat.reduceMul,Nat.reduceLeDiff,quietOp,blindOp,Int.reduceEq,Int.reduceLT,Int.reduceLE,Nat.reduceLT,ti2,ti3,ti4,ti79,ti80,ti28,ti25,ti31,ti22,ti33,ti24,ti67,ti111,ti100, true_and]
    refine (steps_c y.length (by omega) v y H hv (by omega) hin).mono ?_
    rintro u H1 ⟨up1, hf⟩
    have hsl := stpL_length y.length y
    refine Holds.mp ?_
    try simp (disch := first | omega | (simp only [ints_length, List.length_replicate, List.length_set, stpL_length]; done) | (simp only [ints_length, List.length_replicate, List.length_set, stpL_length]; omega)) only [Sall,evalOp,init,binE,binI,unE,convE,okNil,builtE,gv,TD.isAgg,resV,↓reduceIte,Nat.reduceEqDiff,reduceCtorEq,Nat.reduceAdd,Nat.reduceMul,Nat.reduceLeDiff,quietOp,blindOp,Int.reduceEq,Int.reduceLT,Int.reduceLE,Nat.reduceLT,ti2,ti3,ti4,ti79,ti80,ti28,ti25,ti31,ti22,ti33,ti24,ti67,ti111,ti100, true_and]
    refine (areDifferent_c u (stpL y.length y) H1 hf.rd (by omega)).to ?_
    rw [diffB_steps hin hnd]
    try simp (disch := first | omega | (simp only [ints_length, List.length_replicate, List.length_set, stpL_length]; done) | (simp only [ints_length, List.length_replicate, List.length_set, stpL_length]; omega)) only [Sall,evalOp,init,binE,binI,unE,convE,okNil,builtE,gv,TD.isAgg,resV,↓reduceIte,Nat.reduceEqDiff,reduceCtorEq,Nat.reduceAdd,Nat.reduceMul,Nat.reduceLeDiff,quietOp,blindOp,Int.reduceEq,Int.reduceLT,Int.reduceLE,Nat.reduceLT,ti2,ti3,ti4,ti79,ti80,ti28,ti25,ti31,ti22,ti33,ti24,ti67,ti111,ti100, Bool.true_and]
    exact up1

theorem specIsStepSequence_c (v : Value) (n : Nat) (y : List Int) (H : AH) (hv : Rd 1 H v n y) (hy : n ≤ 4294967296) :
    ACalls Try.prog 38 [v] H (is (.tuple #[.bool (isqB y), .int .i64 (isqC y)]) H) := by
  have e := hv.lenK1
  subst e
  refine acalls_of_awp [.tmp 2, .tmp 3] Try.func38 (by kernel_rfl) rfl rfl (Nat.le_of_ble_eq_true rfl) (by kernel_rfl) ?_
  try simp (disch := first | omega | (simp only [ints_length, List.length_replicate, List.length_set, stpL_length]; done) | (simp only [ints_length, List.length_replicate, List.length_set, stpL_length]; omega)) only [Sall,evalOp,init,binE,binI,unE,convE,okNil,builtE,gv,TD.isAgg,resV,↓reduceIte,Nat.reduceEqDiff,reduceCtorEq,Nat.reduceAdd,Nat.reduceMul,Nat.reduceLeDiff,quietOp,blindOp,Int.reduceEq,Int.reduceLT,Int.reduceLE,Nat.reduceLT,ti2,ti3,ti4,ti79,ti80,ti28,ti25,ti31,ti22,ti33,ti24,ti67,ti111,ti100, true_and]
  refine (l09List_c v y H hv hy).to ?_
  unfold isqB isqC
  cases hb : listB y with
  | false =>
    try simp (disch := first | omega | (simp only [ints_length, List.length_replicate, List.length_set, stpL_length]; done) | (simp only [ints_length, List.length_replicate, List.length_set, stpL_length]; omega)) only [Sall,evalOp,init,binE,binI,unE,convE,okNil,builtE,gv,TD.isAgg,resV,↓reduceIte,Nat.reduceEqDiff,reduceCtorEq,Nat.reduceAdd,Nat.reduceMul,Nat.reduceLeDiff,quietOp,blindOp,Int.reduceEq,Int.reduceLT,Int.reduceLE,Nat.reduceLT,ti2,ti3,ti4,ti79,ti80,ti28,ti25,ti31,ti22,ti33,ti24,ti67,ti111,ti100, Bool.not_false, Bool.false_and, is]
  | true =>
    obtain ⟨hlen, hin, hnd⟩ := listB_at hb
    try simp (disch := first | omega | (simp only [ints_length, List.length_replicate, List.length_set, stpL_length]; done) | (simp only [ints_length, List.length_replicate, List.length_set, stpL_length]; omega)) only [Sall,evalOp,init,binE,binI,unE,convE,okNil,builtE,gv,TD.isAgg,resV,↓reduceIte,Nat.reduceEqDiff,reduceCtorEq,Nat.reduceAdd,Nat.reduceMul,Nat.reduceLeDiff,quietOp,blindOp,Int.reduceEq,Int.reduceLT,Int.reduceLE,Nat.reduceLT,ti2,ti3,ti4,ti79,ti80,ti28,ti25,ti31,ti22,ti33,ti24,ti67,ti111,ti100, Bool.not_true, builtE, hv.len]
    refine (l09Step_c y.length (by omega) v y H hv (by omega) hin).to ?_
    try simp (disch := first | omega | (simp only [ints_length, List.length_replicate, List.length_set, stpL_length]; done) | (simp only [ints_length, List.length_replicate, List.length_set, stpL_length]; omega)) only [Sall,evalOp,init,binE,binI,unE,convE,okNil,builtE,gv,TD.isAgg,resV,↓reduceIte,Nat.reduceEqDiff,reduceCtorEq,Nat.reduceAdd,Nat.reduceMul,Nat.reduceLeDiff,quietOp,blindOp,Int.reduceEq,Int.reduceLT,Int.reduceLE,Nat.reduceLT,ti2,ti3,ti4,ti79,ti80,ti28,ti25,ti31,ti22,ti33,ti24,ti67,ti111,ti100, Bool.true_and, is]
end Go.Proofs.Ytbmpkihggipciaa.A
