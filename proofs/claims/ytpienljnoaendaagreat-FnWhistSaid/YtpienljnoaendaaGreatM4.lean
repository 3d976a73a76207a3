/- Contracts: what is an evening, on both sides. And what follows. -/
import Derived.Test.YtpienljnoaendaaGreatM3
set_option linter.unusedSimpArgs false
set_option linter.unusedVariables false
section
set_option maxRecDepth 100000
set_option maxHeartbeats 2000000
namespace Go.Proofs.YtpienljnoaendaaGreat.A
open Go Go.Abs Go.RowKit
theorem areDistinct_c (n : Nat) (v : Value) (y : List Int) (H : AH) (hv : Rd 1 H v y.length y) (hy : y.length ≤ 4194304) :
    ACalls Tryz.prog 154 [v, .int .i64 n] H (is (.bool (distB n y)) H) := by
  refine acalls_up rfl (ACalls.wf (by kernel_rfl) fun hs => acalls_of_awp [.tmp 4] Tryz.func154 (by kernel_rfl) rfl rfl (Nat.le_of_ble_eq_true rfl) (by kernel_rfl) ?_)
  try simp (disch := first | omega | (simp only [L3] <;> omega)) only [Sall,evalOp,init,binA_s,binE,binI,unE,convE,okNil,builtE,gv,TD.isAgg,resV,↓reduceIte,Nat.reduceEqDiff,reduceCtorEq,Nat.reduceAdd,Nat.reduceMul,Nat.reduceLeDiff,quietOp,blindOp,Int.reduceEq,Int.reduceLT,Int.reduceLE,Nat.reduceLT,tiA, true_and]
  refine (values_c v H hv.one).to ?_
  try simp (disch := first | omega | (simp only [L3] <;> omega)) only [Sall,evalOp,init,binA_s,binE,binI,unE,convE,okNil,builtE,gv,TD.isAgg,resV,↓reduceIte,Nat.reduceEqDiff,reduceCtorEq,Nat.reduceAdd,Nat.reduceMul,Nat.reduceLeDiff,quietOp,blindOp,Int.reduceEq,Int.reduceLT,Int.reduceLE,Nat.reduceLT,tiA, true_and]
  have up : Up H.next H (H.push ⟨33, true, [v]⟩) := (Up.refl _ H).push (Nat.le_refl _) _
  have e1 : (H.push ⟨33, true, [v]⟩).row H.next = some ⟨33, true, [v]⟩ := by rw [AH.push_row, if_pos rfl]
  have n1 : (H.push ⟨33, true, [v]⟩).next = H.next + 1 := rfl
  revert up e1 n1
  generalize H.push ⟨33, true, [v]⟩ = H1
  intro up e1 n1
  refine (sorted_c H.next v y H1 e1 (hv.same (up.le hs).row) (by omega)).mono ?_
  rintro u H2 ⟨up2, hf⟩
  have hl2 := sortedL_length y
  have n2 := up2.next
  have u2 : Up H.next H H2 := up.trans up2 (by omega)
  have hf' : Fr 1 2 H1.next H2.next H2 u (sortedL y).length (sortedL y) := by rw [hl2]; exact hf
  have hul := hf'.rd.len
  rw [hl2] at hul
  refine Holds.mp ?_
  by_cases h0 : y.length = 0
  · have e0 : ((y.length : Int) == 0) = true := by rw [h0]; rfl
    have hy0 : y = [] := List.eq_nil_of_length_eq_zero h0
    have hd : distB n y = true := by rw [hy0]; rfl
    rw [hd]
    try simp (disch := first | omega | (simp only [L3] <;> omega)) only [Sall,evalOp,init,binA_s,binE,binI,unE,convE,okNil,builtE,gv,TD.isAgg,resV,↓reduceIte,Nat.reduceEqDiff,reduceCtorEq,Nat.reduceAdd,Nat.reduceMul,Nat.reduceLeDiff,quietOp,blindOp,Int.reduceEq,Int.reduceLT,Int.reduceLE,Nat.reduceLT,tiA, builtE, hul, e0]
    exact u2
  · have e0 : ((y.length : Int) == 0) = false := by rw [beq_eq_false_iff_ne]; omega
    have hd := distB_sorted (n := n) (y := y) (by omega)
    have hcs := compact_sorted y
    obtain ⟨i, o, uu, cc, r, eu, hr, _, hg, _⟩ := hf'.rd.get (by omega)
    rw [hl2] at eu
    have g0 := hg 0 (by omega)
    rw [Nat.add_zero] at g0
    have g1 := hg (y.length - 1) (by omega)
    have i0 : (0 : Int).toNat = 0 := rfl
    have i1 : ((y.length : Int) - 1).toNat = y.length - 1 := by omega
    have k0 : (0 : Int) < (y.length : Int) := by omega
    rw [hd]
    revert g0 g1
    generalize (sortedL y).getD 0 0 = x0
    generalize (sortedL y).getD (y.length - 1) 0 = x1
    intro g0 g1
    by_cases c0 : 0 ≤ x0
    · rw [decide_eq_true c0]
      by_cases c1 : x1 < (n : Int)
      · rw [decide_eq_true c1]
        try simp (disch := first | omega | (simp only [L3] <;> omega)) only [Sall,evalOp,init,binA_s,binE,binI,unE,convE,okNil,builtE,gv,TD.isAgg,resV,↓reduceIte,Nat.reduceEqDiff,reduceCtorEq,Nat.reduceAdd,Nat.reduceMul,Nat.reduceLeDiff,quietOp,blindOp,Int.reduceEq,Int.reduceLT,Int.reduceLE,Nat.reduceLT,tiA, builtE, hul, e0, eu, hr, g0, g1, i0, i1, k0, c0, c1, decide_true, w64]
        (repeat refine And.intro (by omega) ?_)
        have hclone := cloneI_c u (sortedL y) H2 (Cp.of_fr hf') (by omega)
        rw [eu] at hclone
        refine hclone.mono ?_
        rintro w H3 ⟨up3, hw⟩
        have n3 := up3.next
        refine Holds.mp ?_
        try simp (disch := first | omega | (simp only [L3] <;> omega)) only [Sall,evalOp,init,binA_s,binE,binI,unE,convE,okNil,builtE,gv,TD.isAgg,resV,↓reduceIte,Nat.reduceEqDiff,reduceCtorEq,Nat.reduceAdd,Nat.reduceMul,Nat.reduceLeDiff,quietOp,blindOp,Int.reduceEq,Int.reduceLT,Int.reduceLE,Nat.reduceLT,tiA, true_and]
        refine (compact_c w (sortedL y) H2.next H3.next H3 hw (by omega)).mono ?_
        rintro z H4 ⟨hzl, n4, r4⟩
        refine Holds.mp ?_
        try simp (disch := first | omega | (simp only [L3] <;> omega)) only [Sall,evalOp,init,binA_s,binE,binI,unE,convE,okNil,builtE,gv,TD.isAgg,resV,↓reduceIte,Nat.reduceEqDiff,reduceCtorEq,Nat.reduceAdd,Nat.reduceMul,Nat.reduceLeDiff,quietOp,blindOp,Int.reduceEq,Int.reduceLT,Int.reduceLE,Nat.reduceLT,tiA, builtE, hzl, hcs, Bool.true_and]
        exact ⟨by omega, fun i hi => by rw [r4 i (by omega), up3.row i (by omega), u2.row i hi]⟩
      · rw [decide_eq_false c1]
        try simp (disch := first | omega | (simp only [L3] <;> omega)) only [Sall,evalOp,init,binA_s,binE,binI,unE,convE,okNil,builtE,gv,TD.isAgg,resV,↓reduceIte,Nat.reduceEqDiff,reduceCtorEq,Nat.reduceAdd,Nat.reduceMul,Nat.reduceLeDiff,quietOp,blindOp,Int.reduceEq,Int.reduceLT,Int.reduceLE,Nat.reduceLT,tiA, builtE, hul, e0, eu, hr, g0, g1, i0, i1, k0, c0, c1, decide_true, decide_false, Bool.and_false, Bool.false_and, w64]
        first | exact u2 | exact ⟨⟨by omega, by omega⟩, u2⟩
    · rw [decide_eq_false c0]
      try simp (disch := first | omega | (simp only [L3] <;> omega)) only [Sall,evalOp,init,binA_s,binE,binI,unE,convE,okNil,builtE,gv,TD.isAgg,resV,↓reduceIte,Nat.reduceEqDiff,reduceCtorEq,Nat.reduceAdd,Nat.reduceMul,Nat.reduceLeDiff,quietOp,blindOp,Int.reduceEq,Int.reduceLT,Int.reduceLE,Nat.reduceLT,tiA, builtE, hul, e0, eu, hr, g0, g1, i0, i1, k0, c0, decide_false, Bool.false_and, w64]
      exact u2
theorem l06Round_c (n : Nat) (hn : n ≤ 1024) (v : Value) (y : List Int) (H : AH) (hv : Rd 1 H v y.length y) (hy : y.length ≤ 4294967296) :
    ACalls Tryz.prog 156 [.int .i64 n, v] H (is (.bool (evRow n y)) H) := by
  refine acalls_up rfl (ACalls.wf (by kernel_rfl) fun hs => acalls_of_awp [.tmp 4] Tryz.func156 (by kernel_rfl) rfl rfl (Nat.le_of_ble_eq_true rfl) (by kernel_rfl) ?_)
  unfold evRow
  try simp (disch := first | omega | (simp only [L3] <;> omega)) only [Sall,evalOp,init,binA_s,binE,binI,unE,convE,okNil,builtE,gv,TD.isAgg,resV,↓reduceIte,Nat.reduceEqDiff,reduceCtorEq,Nat.reduceAdd,Nat.reduceMul,Nat.reduceLeDiff,quietOp,blindOp,Int.reduceEq,Int.reduceLT,Int.reduceLE,Nat.reduceLT,tiA, zeros_bools, ← metL_nil]
  (repeat refine And.intro (by omega) ?_)
  have hml := metL_length n []
  refine awp_loop (fun m t H' => ∃ a : Nat, m = y.length - a ∧ a ≤ y.length ∧ t 6 = .int .i64 a ∧ t 5 = .slice (some ⟨H.next, 0, some 1⟩) n n ∧ t 1 = v ∧ t 0 = .int .i64 n ∧ H.next < H'.next ∧ (∀ i, i < H.next → H'.row i = H.row i) ∧ H'.row H.next = some ⟨4, true, bools (metL n (y.take a))⟩ ∧ goodTo n y a) y.length ?_ ?_
  · refine ⟨0, by omega, by omega, ?_⟩
    try simp (disch := first | omega | (simp only [L3] <;> omega)) only [Sall,evalOp,init,binA_s,binE,binI,unE,convE,okNil,builtE,gv,TD.isAgg,resV,↓reduceIte,Nat.reduceEqDiff,reduceCtorEq,Nat.reduceAdd,Nat.reduceMul,Nat.reduceLeDiff,quietOp,blindOp,Int.reduceEq,Int.reduceLT,Int.reduceLE,Nat.reduceLT,tiA, Int.natCast_zero, List.take_zero]
    refine ⟨by omega, fun i hi => by rw [if_neg (by omega)], goodTo_zero n y⟩
  · rintro m t H' ⟨a, hm, han, h6, h5, h1, h0, hnx, hrows, hrow, hgood⟩
    have hv' : Rd 1 H' v y.length y := hv.same fun i r hr => by rw [hrows i (hs _ _ hr)]; exact hr
    have up : Up H.next H H' := ⟨by omega, hrows⟩
    try simp (disch := first | omega | (simp only [L3] <;> omega)) only [Sall,evalOp,init,binA_s,binE,binI,unE,convE,okNil,builtE,gv,TD.isAgg,resV,↓reduceIte,Nat.reduceEqDiff,reduceCtorEq,Nat.reduceAdd,Nat.reduceMul,Nat.reduceLeDiff,quietOp,blindOp,Int.reduceEq,Int.reduceLT,Int.reduceLE,Nat.reduceLT,tiA, h6, h1, builtE, hv'.len]
    refine condC_dec (fun h => ?_) (fun h => ?_)
    · obtain ⟨i, o, uu, cc, r, rfl, hr, hc, hg, _⟩ := hv'.get (by omega)
      have g1 := hg a (by omega)
      obtain ⟨x, hx⟩ : ∃ x, x = y.getD a 0 := ⟨_, rfl⟩
      rw [← hx] at g1
      by_cases hin : 0 ≤ x ∧ x ≤ (n : Int) - 1
      · have hin' : 0 ≤ x ∧ x < (n : Int) := by omega
        have g2 := metL_get? n (y.take a) x hin'
        have g3 := metL_put n (y.take a) x hin'
        try simp (disch := first | omega | (simp only [L3] <;> omega)) only [Sall,evalOp,init,binA_s,binE,binI,unE,convE,okNil,builtE,gv,TD.isAgg,resV,↓reduceIte,Nat.reduceEqDiff,reduceCtorEq,Nat.reduceAdd,Nat.reduceMul,Nat.reduceLeDiff,quietOp,blindOp,Int.reduceEq,Int.reduceLT,Int.reduceLE,Nat.reduceLT,tiA, h6, h0, h1, hr, g1, w64]
        (repeat refine And.intro (by omega) ?_)
        refine (l01In_c _ _ _ _).to ?_
        rw [decide_eq_true hin]
        cases hct : (y.take a).contains x with
        | true =>
          rw [hct] at g2
          try simp (disch := first | omega | (simp only [L3] <;> omega)) only [Sall,evalOp,init,binA_s,binE,binI,unE,convE,okNil,builtE,gv,TD.isAgg,resV,↓reduceIte,Nat.reduceEqDiff,reduceCtorEq,Nat.reduceAdd,Nat.reduceMul,Nat.reduceLeDiff,quietOp,blindOp,Int.reduceEq,Int.reduceLT,Int.reduceLE,Nat.reduceLT,tiA, Bool.not_true, h6, h5, h0, h1, hr, g1, hrow, g2, w64]
          (repeat refine And.intro (by omega) ?_)
          rw [distB_bad (i := a) (by omega) (.inr (by rw [← hx]; exact hct)), Bool.and_false]
          exact ⟨rfl, up⟩
        | false =>
          rw [hct] at g2
          have ne : ¬ i = H.next := by
            rintro rfl
            rw [hrow] at hr
            cases hr
            rcases hv.2 with ⟨h9, _⟩ | ⟨i9, o9, u9, c9, r9, e9, hr9, _⟩
            · omega
            · cases e9
              have := hs _ _ hr9
              omega
          try simp (disch := first | omega | (simp only [L3] <;> omega)) only [Sall,evalOp,init,binA_s,binE,binI,unE,convE,okNil,builtE,gv,TD.isAgg,resV,↓reduceIte,Nat.reduceEqDiff,reduceCtorEq,Nat.reduceAdd,Nat.reduceMul,Nat.reduceLeDiff,quietOp,blindOp,Int.reduceEq,Int.reduceLT,Int.reduceLE,Nat.reduceLT,tiA, Bool.not_true, h6, h5, h0, h1, hr, g1, hrow, g2, g3, ne, w64]
          (repeat refine And.intro (by omega) ?_)
          refine ⟨by rw [bools_length, metL_length]; omega, y.length - (a + 1), by omega, a + 1, rfl, by omega, rfl, hnx, fun i hi => by rw [if_neg (by omega)]; exact hrows i hi, by rw [take_snoc y 0 a (by omega), ← hx], goodTo_succ (by omega) hgood (by rw [← hx]; exact hin') (by rw [← hx]; exact hct)⟩
      · try simp (disch := first | omega | (simp only [L3] <;> omega)) only [Sall,evalOp,init,binA_s,binE,binI,unE,convE,okNil,builtE,gv,TD.isAgg,resV,↓reduceIte,Nat.reduceEqDiff,reduceCtorEq,Nat.reduceAdd,Nat.reduceMul,Nat.reduceLeDiff,quietOp,blindOp,Int.reduceEq,Int.reduceLT,Int.reduceLE,Nat.reduceLT,tiA, h6, h0, h1, hr, g1, w64]
        (repeat refine And.intro (by omega) ?_)
        refine (l01In_c _ _ _ _).to ?_
        rw [decide_eq_false hin]
        try simp (disch := first | omega | (simp only [L3] <;> omega)) only [Sall,evalOp,init,binA_s,binE,binI,unE,convE,okNil,builtE,gv,TD.isAgg,resV,↓reduceIte,Nat.reduceEqDiff,reduceCtorEq,Nat.reduceAdd,Nat.reduceMul,Nat.reduceLeDiff,quietOp,blindOp,Int.reduceEq,Int.reduceLT,Int.reduceLE,Nat.reduceLT,tiA, Bool.not_false]
        rw [distB_bad (i := a) (by omega) (.inl (by rw [← hx]; omega)), Bool.and_false]
        exact ⟨rfl, up⟩
    · have ha : a = y.length := by omega
      subst ha
      have em : Int.tmod (y.length : Int) 4 = ((y.length % 4 : Nat) : Int) := rfl
      try simp (disch := first | omega | (simp only [L3] <;> omega)) only [Sall,evalOp,init,binA_s,binE,binI,unE,convE,okNil,builtE,gv,TD.isAgg,resV,↓reduceIte,Nat.reduceEqDiff,reduceCtorEq,Nat.reduceAdd,Nat.reduceMul,Nat.reduceLeDiff,quietOp,blindOp,Int.reduceEq,Int.reduceLT,Int.reduceLE,Nat.reduceLT,tiA, h0, h1, builtE, hv'.len, em, w64]
      rw [distB_all hgood, Bool.and_true]
      refine ⟨?_, up⟩
      by_cases e : y.length % 4 = 0
      · rw [decide_eq_true e, e]; rfl
      · rw [decide_eq_false e, beq_eq_false_iff_ne]; omega
theorem IsEveningC_c (n : Nat) (u : Value) (y : Value) (l : List Int) (c0 : Nat) (H : AH) (h0 : H.row c0 = some ⟨55, true, [.int .i64 n, u]⟩) (hy : Rd 1 H y l.length l) (hl : l.length ≤ 4194304) :
    ACalls Tryz.prog 293 [y, .pointer (some ⟨c0, 0, none⟩)] H (is (.bool (!evRow n l)) H) := by
  refine acalls_of_awp [.tmp 3] Tryz.func293 (by kernel_rfl) rfl rfl (Nat.le_of_ble_eq_true rfl) (by kernel_rfl) ?_
  have em : Int.tmod (l.length : Int) 4 = ((l.length % 4 : Nat) : Int) := rfl
  unfold evRow
  by_cases h4 : l.length % 4 = 0
  · have e0 : (Int.tmod (l.length : Int) 4 != 0) = false := by rw [em, h4]; rfl
    rw [decide_eq_true h4]
    try simp (disch := first | omega | (simp only [L3] <;> omega)) only [Sall,evalOp,init,binA_s,binE,binI,unE,convE,okNil,builtE,gv,TD.isAgg,resV,↓reduceIte,Nat.reduceEqDiff,reduceCtorEq,Nat.reduceAdd,Nat.reduceMul,Nat.reduceLeDiff,quietOp,blindOp,Int.reduceEq,Int.reduceLT,Int.reduceLE,Nat.reduceLT,tiA, builtE, hy.len, e0, h0, w64]
    refine (areDistinct_c n y l H hy hl).to ?_
    try simp (disch := first | omega | (simp only [L3] <;> omega)) only [Sall,evalOp,init,binA_s,binE,binI,unE,convE,okNil,builtE,gv,TD.isAgg,resV,↓reduceIte,Nat.reduceEqDiff,reduceCtorEq,Nat.reduceAdd,Nat.reduceMul,Nat.reduceLeDiff,quietOp,blindOp,Int.reduceEq,Int.reduceLT,Int.reduceLE,Nat.reduceLT,tiA, is, Bool.true_and]
  · have e0 : (Int.tmod (l.length : Int) 4 != 0) = true := by rw [em, bne_iff_ne]; omega
    rw [decide_eq_false h4]
    try simp (disch := first | omega | (simp only [L3] <;> omega)) only [Sall,evalOp,init,binA_s,binE,binI,unE,convE,okNil,builtE,gv,TD.isAgg,resV,↓reduceIte,Nat.reduceEqDiff,reduceCtorEq,Nat.reduceAdd,Nat.reduceMul,Nat.reduceLeDiff,quietOp,blindOp,Int.reduceEq,Int.reduceLT,Int.reduceLE,Nat.reduceLT,tiA, builtE, hy.len, e0, h0, w64, is, Bool.false_and, Bool.not_false]
theorem IsEvening_c (q : Int) (v : Value) (R : List (List Int)) (H : AH) (hv : Rd2 1 H v R) (hl : R.length ≤ 4194304) (hl2 : ∀ r ∈ R, r.length ≤ 4194304) :
    ACalls Tryz.prog 249 [.agg #[.int .i64 q, v]] H (is (.bool (evB q R)) H) := by
  refine acalls_up rfl (ACalls.wf (by kernel_rfl) fun hs => acalls_of_awp [.tmp 2] Tryz.func249 (by kernel_rfl) rfl rfl (Nat.le_of_ble_eq_true rfl) (by kernel_rfl) ?_)
  have hone := hv.one
  have up : Up H.next H (H.push ⟨55, true, [.int .i64 q, v]⟩) := (Up.refl _ H).push (Nat.le_refl _) _
  have e1 : (H.push ⟨55, true, [.int .i64 q, v]⟩).row H.next = some ⟨55, true, [.int .i64 q, v]⟩ := by rw [AH.push_row, if_pos rfl]
  try simp (disch := first | omega | (simp only [L3] <;> omega)) only [Sall,evalOp,init,binA_s,binE,binI,unE,convE,okNil,builtE,gv,TD.isAgg,resV,↓reduceIte,Nat.reduceEqDiff,reduceCtorEq,Nat.reduceAdd,Nat.reduceMul,Nat.reduceLeDiff,quietOp,blindOp,Int.reduceEq,Int.reduceLT,Int.reduceLE,Nat.reduceLT,tiA, hone]
  revert up e1
  generalize H.push ⟨55, true, [.int .i64 q, v]⟩ = H1
  intro up e1
  have hv1 := hv.same (up.le hs).row
  try simp (disch := first | omega | (simp only [L3] <;> omega)) only [Sall,evalOp,init,binA_s,binE,binI,unE,convE,okNil,builtE,gv,TD.isAgg,resV,↓reduceIte,Nat.reduceEqDiff,reduceCtorEq,Nat.reduceAdd,Nat.reduceMul,Nat.reduceLeDiff,quietOp,blindOp,Int.reduceEq,Int.reduceLT,Int.reduceLE,Nat.reduceLT,tiA, e1]
  refine (between_c _ _ _ _).to ?_
  unfold evB
  by_cases hq : 4 ≤ q ∧ q ≤ 16
  · obtain ⟨n, rfl⟩ : ∃ n : Nat, q = n := ⟨q.toNat, by omega⟩
    rw [decide_eq_true hq, Int.toNat_natCast]
    by_cases h20 : R.length ≤ 20
    · have k : (R.length : Int) ≤ 20 := by omega
      rw [decide_eq_true h20]
      try simp (disch := first | omega | (simp only [L3] <;> omega)) only [Sall,evalOp,init,binA_s,binE,binI,unE,convE,okNil,builtE,gv,TD.isAgg,resV,↓reduceIte,Nat.reduceEqDiff,reduceCtorEq,Nat.reduceAdd,Nat.reduceMul,Nat.reduceLeDiff,quietOp,blindOp,Int.reduceEq,Int.reduceLT,Int.reduceLE,Nat.reduceLT,tiA, e1, builtE, hv1.len, k, decide_true, List.mem_cons, List.not_mem_nil, or_false, forall_eq_or_imp, forall_eq, Array.size_empty]
      refine (containsFuncLL_c 293 [.pointer (some ⟨H.next, 0, none⟩)] (fun l => !evRow n l) v R H1 hv1 (by omega) fun y r hr hy => IsEveningC_c n v y r H.next H1 e1 hy (hl2 r hr)).to ?_
      have hany : ((List.range R.length).any fun i => !evRow n (R.getD i [])) = !((List.range R.length).all fun i => evRow n (R.getD i [])) := by rw [List.not_all_eq_any_not]
      rw [hany]
      try simp (disch := first | omega | (simp only [L3] <;> omega)) only [Sall,evalOp,init,binA_s,binE,binI,unE,convE,okNil,builtE,gv,TD.isAgg,resV,↓reduceIte,Nat.reduceEqDiff,reduceCtorEq,Nat.reduceAdd,Nat.reduceMul,Nat.reduceLeDiff,quietOp,blindOp,Int.reduceEq,Int.reduceLT,Int.reduceLE,Nat.reduceLT,tiA, Bool.not_not, Bool.true_and]
      first | exact up | exact ⟨rfl, up⟩
    · have k : ¬ (R.length : Int) ≤ 20 := by omega
      rw [decide_eq_false h20]
      try simp (disch := first | omega | (simp only [L3] <;> omega)) only [Sall,evalOp,init,binA_s,binE,binI,unE,convE,okNil,builtE,gv,TD.isAgg,resV,↓reduceIte,Nat.reduceEqDiff,reduceCtorEq,Nat.reduceAdd,Nat.reduceMul,Nat.reduceLeDiff,quietOp,blindOp,Int.reduceEq,Int.reduceLT,Int.reduceLE,Nat.reduceLT,tiA, e1, builtE, hv1.len, k, decide_false, Bool.false_and, Bool.and_false]
      exact up
  · rw [decide_eq_false hq]
    try simp (disch := first | omega | (simp only [L3] <;> omega)) only [Sall,evalOp,init,binA_s,binE,binI,unE,convE,okNil,builtE,gv,TD.isAgg,resV,↓reduceIte,Nat.reduceEqDiff,reduceCtorEq,Nat.reduceAdd,Nat.reduceMul,Nat.reduceLeDiff,quietOp,blindOp,Int.reduceEq,Int.reduceLT,Int.reduceLE,Nat.reduceLT,tiA, Bool.false_and]
    exact up
theorem l06Is_c (q : Int) (v : Value) (R : List (List Int)) (H : AH) (hv : Rd2 1 H v R) (hl : R.length ≤ 4194304) (hl2 : ∀ r ∈ R, r.length ≤ 4194304) :
    ACalls Tryz.prog 144 [.agg #[.int .i64 q, v]] H (is (.bool (evB q R)) H) := by
  refine acalls_up rfl (ACalls.wf (by kernel_rfl) fun hs => acalls_of_awp [.tmp 2] Tryz.func144 (by kernel_rfl) rfl rfl (Nat.le_of_ble_eq_true rfl) (by kernel_rfl) ?_)
  have hone := hv.one
  have up : Up H.next H (H.push ⟨55, true, [.int .i64 q, v]⟩) := (Up.refl _ H).push (Nat.le_refl _) _
  have e1 : (H.push ⟨55, true, [.int .i64 q, v]⟩).row H.next = some ⟨55, true, [.int .i64 q, v]⟩ := by rw [AH.push_row, if_pos rfl]
  try simp (disch := first | omega | (simp only [L3] <;> omega)) only [Sall,evalOp,init,binA_s,binE,binI,unE,convE,okNil,builtE,gv,TD.isAgg,resV,↓reduceIte,Nat.reduceEqDiff,reduceCtorEq,Nat.reduceAdd,Nat.reduceMul,Nat.reduceLeDiff,quietOp,blindOp,Int.reduceEq,Int.reduceLT,Int.reduceLE,Nat.reduceLT,tiA, hone]
  revert up e1
  generalize H.push ⟨55, true, [.int .i64 q, v]⟩ = H1
  intro up e1
  have hv1 := hv.same (up.le hs).row
  have hvl := hv1.len
  try simp (disch := first | omega | (simp only [L3] <;> omega)) only [Sall,evalOp,init,binA_s,binE,binI,unE,convE,okNil,builtE,gv,TD.isAgg,resV,↓reduceIte,Nat.reduceEqDiff,reduceCtorEq,Nat.reduceAdd,Nat.reduceMul,Nat.reduceLeDiff,quietOp,blindOp,Int.reduceEq,Int.reduceLT,Int.reduceLE,Nat.reduceLT,tiA, e1]
  refine (l01In_c _ _ _ _).to ?_
  unfold evB
  by_cases hq : 4 ≤ q ∧ q ≤ 16
  · obtain ⟨n, rfl⟩ : ∃ n : Nat, q = n := ⟨q.toNat, by omega⟩
    rw [decide_eq_true hq, Int.toNat_natCast]
    by_cases h20 : R.length ≤ 20
    · have k : ¬ (20 : Int) < (R.length : Int) := by omega
      rw [decide_eq_true h20]
      try simp (disch := first | omega | (simp only [L3] <;> omega)) only [Sall,evalOp,init,binA_s,binE,binI,unE,convE,okNil,builtE,gv,TD.isAgg,resV,↓reduceIte,Nat.reduceEqDiff,reduceCtorEq,Nat.reduceAdd,Nat.reduceMul,Nat.reduceLeDiff,quietOp,blindOp,Int.reduceEq,Int.reduceLT,Int.reduceLE,Nat.reduceLT,tiA, e1, builtE, hvl, k, decide_false, Bool.not_true]
      refine awp_loop (fun m t H' => ∃ a : Nat, m = R.length - a ∧ a ≤ R.length ∧ t 3 = .int .i64 a ∧ t 1 = .pointer (some ⟨H.next, 0, none⟩) ∧ H' = H1 ∧ (∀ i, i < a → evRow n (R.getD i []) = true)) R.length ?_ ?_
      · refine ⟨0, by omega, by omega, ?_⟩
        try simp (disch := first | omega | (simp only [L3] <;> omega)) only [Sall,evalOp,init,binA_s,binE,binI,unE,convE,okNil,builtE,gv,TD.isAgg,resV,↓reduceIte,Nat.reduceEqDiff,reduceCtorEq,Nat.reduceAdd,Nat.reduceMul,Nat.reduceLeDiff,quietOp,blindOp,Int.reduceEq,Int.reduceLT,Int.reduceLE,Nat.reduceLT,tiA, Int.natCast_zero, Nat.not_lt_zero, false_implies]
      · rintro m t H' ⟨a, hm, ha, h3, h1, rfl, hall⟩
        try simp (disch := first | omega | (simp only [L3] <;> omega)) only [Sall,evalOp,init,binA_s,binE,binI,unE,convE,okNil,builtE,gv,TD.isAgg,resV,↓reduceIte,Nat.reduceEqDiff,reduceCtorEq,Nat.reduceAdd,Nat.reduceMul,Nat.reduceLeDiff,quietOp,blindOp,Int.reduceEq,Int.reduceLT,Int.reduceLE,Nat.reduceLT,tiA, h3, h1, e1, builtE, hvl]
        refine condC_dec (fun h => ?_) (fun h => ?_)
        · obtain ⟨xi, xo, xuu, xc, xr, y, my, ex, hxr, hy, hsx, hok⟩ := hv1.get (j := a) (by omega)
          have hmm := hsx.lenK1
          subst hmm
          have hll := hl2 (R.getD a []) (by rw [List.getD_eq_getElem?_getD, List.getElem?_eq_getElem (by omega)]; exact List.getElem_mem _)
          refine draw_id (by kernel_rfl) (by kernel_rfl) ?_
          try simp (disch := first | omega | (simp only [L3] <;> omega)) only [Sall,evalOp,init,binA_s,binE,binI,unE,convE,okNil,builtE,gv,TD.isAgg,resV,↓reduceIte,Nat.reduceEqDiff,reduceCtorEq,Nat.reduceAdd,Nat.reduceMul,Nat.reduceLeDiff,quietOp,blindOp,Int.reduceEq,Int.reduceLT,Int.reduceLE,Nat.reduceLT,tiA, h3, h1, e1, ex, hxr, hy, hok]
          (repeat refine And.intro (by omega) ?_)
          refine (l06Round_c n (by omega) y _ H' hsx (by omega)).to ?_
          refine ⟨.inr (.inr (LE.refl _)), ?_⟩
          cases hr : evRow n (R.getD a []) with
          | true =>
            try simp (disch := first | omega | (simp only [L3] <;> omega)) only [Sall,evalOp,init,binA_s,binE,binI,unE,convE,okNil,builtE,gv,TD.isAgg,resV,↓reduceIte,Nat.reduceEqDiff,reduceCtorEq,Nat.reduceAdd,Nat.reduceMul,Nat.reduceLeDiff,quietOp,blindOp,Int.reduceEq,Int.reduceLT,Int.reduceLE,Nat.reduceLT,tiA, Bool.not_true, h3, h1, w64]
            refine ⟨R.length - (a + 1), by omega, a + 1, rfl, by omega, by omega, fun i hi => ?_⟩
            by_cases e : i = a
            · rw [e]; exact hr
            · exact hall i (by omega)
          | false =>
            try simp (disch := first | omega | (simp only [L3] <;> omega)) only [Sall,evalOp,init,binA_s,binE,binI,unE,convE,okNil,builtE,gv,TD.isAgg,resV,↓reduceIte,Nat.reduceEqDiff,reduceCtorEq,Nat.reduceAdd,Nat.reduceMul,Nat.reduceLeDiff,quietOp,blindOp,Int.reduceEq,Int.reduceLT,Int.reduceLE,Nat.reduceLT,tiA, Bool.not_false]
            rw [all_false_of (i := a) (by omega) hr]
            exact ⟨rfl, up⟩
        · try simp (disch := first | omega | (simp only [L3] <;> omega)) only [Sall,evalOp,init,binA_s,binE,binI,unE,convE,okNil,builtE,gv,TD.isAgg,resV,↓reduceIte,Nat.reduceEqDiff,reduceCtorEq,Nat.reduceAdd,Nat.reduceMul,Nat.reduceLeDiff,quietOp,blindOp,Int.reduceEq,Int.reduceLT,Int.reduceLE,Nat.reduceLT,tiA, true_and]
          have ha2 : a = R.length := by omega
          subst ha2
          rw [all_true_of hall]
          exact ⟨rfl, up⟩
    · have k : (20 : Int) < (R.length : Int) := by omega
      rw [decide_eq_false h20]
      try simp (disch := first | omega | (simp only [L3] <;> omega)) only [Sall,evalOp,init,binA_s,binE,binI,unE,convE,okNil,builtE,gv,TD.isAgg,resV,↓reduceIte,Nat.reduceEqDiff,reduceCtorEq,Nat.reduceAdd,Nat.reduceMul,Nat.reduceLeDiff,quietOp,blindOp,Int.reduceEq,Int.reduceLT,Int.reduceLE,Nat.reduceLT,tiA, e1, builtE, hvl, k, decide_true, Bool.not_true, Bool.false_and, Bool.and_false]
      exact up
  · rw [decide_eq_false hq]
    try simp (disch := first | omega | (simp only [L3] <;> omega)) only [Sall,evalOp,init,binA_s,binE,binI,unE,convE,okNil,builtE,gv,TD.isAgg,resV,↓reduceIte,Nat.reduceEqDiff,reduceCtorEq,Nat.reduceAdd,Nat.reduceMul,Nat.reduceLeDiff,quietOp,blindOp,Int.reduceEq,Int.reduceLT,Int.reduceLE,Nat.reduceLT,tiA, Bool.not_false, Bool.false_and]
    exact up
theorem eveningCode_c (q : Int) (v : Value) (R : List (List Int)) (b : Bool) (H : AH) (hv : Rd2 1 H v R) (hl : R.length ≤ 4194304) (hl2 : ∀ r ∈ R, r.length ≤ 4194304) :
    ACalls Tryz.prog 142 [.agg #[.int .i64 q, v], .bool b] H (is (.int .i64 (if evB q R = true then (if b = true then 0 else 2) else 1)) H) := by
  refine acalls_up rfl (ACalls.wf (by kernel_rfl) fun hs => acalls_of_awp [.tmp 4] Tryz.func142 (by kernel_rfl) rfl rfl (Nat.le_of_ble_eq_true rfl) (by kernel_rfl) ?_)
  have hone := hv.one
  have up : Up H.next H (H.push ⟨55, true, [.int .i64 q, v]⟩) := (Up.refl _ H).push (Nat.le_refl _) _
  try simp (disch := first | omega | (simp only [L3] <;> omega)) only [Sall,evalOp,init,binA_s,binE,binI,unE,convE,okNil,builtE,gv,TD.isAgg,resV,↓reduceIte,Nat.reduceEqDiff,reduceCtorEq,Nat.reduceAdd,Nat.reduceMul,Nat.reduceLeDiff,quietOp,blindOp,Int.reduceEq,Int.reduceLT,Int.reduceLE,Nat.reduceLT,tiA, hone]
  refine (IsEvening_c q v R _ (hv.same (up.le hs).row) hl hl2).to ?_
  obtain hE | hE : evB q R = true ∨ evB q R = false := by cases evB q R <;> simp
  · rw [hE, if_pos rfl]
    obtain hb | hb : b = true ∨ b = false := by cases b <;> simp
    · rw [hb, if_pos rfl]
      try simp (disch := first | omega | (simp only [L3] <;> omega)) only [Sall,evalOp,init,binA_s,binE,binI,unE,convE,okNil,builtE,gv,TD.isAgg,resV,↓reduceIte,Nat.reduceEqDiff,reduceCtorEq,Nat.reduceAdd,Nat.reduceMul,Nat.reduceLeDiff,quietOp,blindOp,Int.reduceEq,Int.reduceLT,Int.reduceLE,Nat.reduceLT,tiA, Bool.not_true]
      exact up
    · rw [hb, if_neg (by simp)]
      try simp (disch := first | omega | (simp only [L3] <;> omega)) only [Sall,evalOp,init,binA_s,binE,binI,unE,convE,okNil,builtE,gv,TD.isAgg,resV,↓reduceIte,Nat.reduceEqDiff,reduceCtorEq,Nat.reduceAdd,Nat.reduceMul,Nat.reduceLeDiff,quietOp,blindOp,Int.reduceEq,Int.reduceLT,Int.reduceLE,Nat.reduceLT,tiA, Bool.not_true, Bool.not_false]
      exact up
  · rw [hE, if_neg (by simp)]
    try simp (disch := first | omega | (simp only [L3] <;> omega)) only [Sall,evalOp,init,binA_s,binE,binI,unE,convE,okNil,builtE,gv,TD.isAgg,resV,↓reduceIte,Nat.reduceEqDiff,reduceCtorEq,Nat.reduceAdd,Nat.reduceMul,Nat.reduceLeDiff,quietOp,blindOp,Int.reduceEq,Int.reduceLT,Int.reduceLE,Nat.reduceLT,tiA, Bool.not_false]
    exact up
end Go.Proofs.YtpienljnoaendaaGreat.A
end

section
set_option maxRecDepth 100000
set_option maxHeartbeats 2000000
namespace Go.Proofs.YtpienljnoaendaaGreat.A
open Go Go.Abs Go.RowKit
theorem opponents1_c (n : Nat) (hn : 1 ≤ n ∧ n ≤ 16) (u : Value) (R : List (List Int)) (H : AH) (hu : Rd2 1 H u R) (hR : EvOk n R) :
    ACalls Tryz.prog 147 [.agg #[.int .i64 n, u], .int .i64 1] H (fun r H' => Up H.next H H' ∧ Fr2 1 33 2 H.next H'.next H' r (tabM n w1L R)) := by
  have hone := hu.one
  have zz : zeros 4 [.int .i64 0, .int .i64 0] = [.int .i64 0, .int .i64 0, .int .i64 0, .int .i64 0, .int .i64 0, .int .i64 0, .int .i64 0, .int .i64 0] := rfl
  have sp0 : splice ([.int .i64 0, .int .i64 0, .int .i64 0, .int .i64 0, .int .i64 0, .int .i64 0, .int .i64 0, .int .i64 0] : List Value) 0 [.int .i64 0, .int .i64 2] = [.int .i64 0, .int .i64 2, .int .i64 0, .int .i64 0, .int .i64 0, .int .i64 0, .int .i64 0, .int .i64 0] := rfl
  have sp1 : splice ([.int .i64 0, .int .i64 2, .int .i64 0, .int .i64 0, .int .i64 0, .int .i64 0, .int .i64 0, .int .i64 0] : List Value) 2 [.int .i64 1, .int .i64 3] = [.int .i64 0, .int .i64 2, .int .i64 1, .int .i64 3, .int .i64 0, .int .i64 0, .int .i64 0, .int .i64 0] := rfl
  have sp2 : splice ([.int .i64 0, .int .i64 2, .int .i64 1, .int .i64 3, .int .i64 0, .int .i64 0, .int .i64 0, .int .i64 0] : List Value) 4 [.int .i64 0, .int .i64 3] = [.int .i64 0, .int .i64 2, .int .i64 1, .int .i64 3, .int .i64 0, .int .i64 3, .int .i64 0, .int .i64 0] := rfl
  have sp3 : splice ([.int .i64 0, .int .i64 2, .int .i64 1, .int .i64 3, .int .i64 0, .int .i64 3, .int .i64 0, .int .i64 0] : List Value) 6 [.int .i64 1, .int .i64 2] = [.int .i64 0, .int .i64 2, .int .i64 1, .int .i64 3, .int .i64 0, .int .i64 3, .int .i64 1, .int .i64 2] := rfl
  refine ACalls.wf (by kernel_rfl) fun hs => acalls_of_awp [.tmp 4] Tryz.func147 (by kernel_rfl) rfl rfl (Nat.le_of_ble_eq_true rfl) (by kernel_rfl) ?_
  have e1 : ((1 : Int) == 1) = true := rfl
  try simp (disch := first | omega | (simp only [L3] <;> omega)) only [Sall,evalOp,init,binA_s,binE,binI,unE,convE,okNil,builtE,gv,TD.isAgg,resV,↓reduceIte,Nat.reduceEqDiff,reduceCtorEq,Nat.reduceAdd,Nat.reduceMul,Nat.reduceLeDiff,quietOp,blindOp,Int.reduceEq,Int.reduceLT,Int.reduceLE,Nat.reduceLT,tiA, hone, slCells, zz, sp0, sp1, sp2, sp3, e1, sliceE, Option.getD_none, Option.getD_some, Option.isSome_none, Option.isSome_some]
  obtain ⟨H2, e2⟩ : ∃ H2, H2 = (H.push ⟨55, true, [.int .i64 n, u]⟩).push ⟨188, true, [.int .i64 0, .int .i64 2, .int .i64 1, .int .i64 3, .int .i64 0, .int .i64 3, .int .i64 1, .int .i64 2]⟩ := ⟨_, rfl⟩
  have up2 : Up H.next H H2 := by rw [e2]; exact ((Up.refl _ H).push (Nat.le_refl _) _).push (by simp only [AH.push_next]; omega) _
  have r2 : H2.row (H.next + 1) = some ⟨188, true, [.int .i64 0, .int .i64 2, .int .i64 1, .int .i64 3, .int .i64 0, .int .i64 3, .int .i64 1, .int .i64 2]⟩ := by rw [e2, AH.push_row, AH.push_next, if_pos rfl]
  have n2 : H2.next = H.next + 2 := by rw [e2]; rfl
  rw [← e2]
  clear e2
  refine ⟨by decide, ?_⟩
  refine (together_c n hn u R (.slice (some ⟨H.next + 1, 0, some 2⟩) 2 2) w1L H2 (hu.same (up2.le hs).row) ⟨rfl, .inr ⟨H.next + 1, 0, _, _, _, rfl, r2, by decide, rfl⟩⟩ (by decide) (by decide) hR.1 hR.2).mono ?_
  rintro r H3 ⟨up3, f3⟩
  have n3 := up3.next
  have ho := f3.rd.one
  refine Holds.mp ?_
  try simp (disch := first | omega | (simp only [L3] <;> omega)) only [Sall,evalOp,init,binA_s,binE,binI,unE,convE,okNil,builtE,gv,TD.isAgg,resV,↓reduceIte,Nat.reduceEqDiff,reduceCtorEq,Nat.reduceAdd,Nat.reduceMul,Nat.reduceLeDiff,quietOp,blindOp,Int.reduceEq,Int.reduceLT,Int.reduceLE,Nat.reduceLT,tiA, ho]
  exact ⟨up2.trans up3 (by omega), f3.wide (by omega) (Nat.le_refl _)⟩
theorem IsWhist_c (q : Int) (v : Value) (R : List (List Int)) (H : AH) (hv : Rd2 1 H v R) (hl : R.length ≤ 4194304) (hl2 : ∀ r ∈ R, r.length ≤ 4194304) :
    ACalls Tryz.prog 33 [.agg #[.int .i64 q, v]] H (is (.tuple #[.bool (whB q R), .int .i64 (evC q R)]) H) := by
  refine acalls_up (by simp [flat, Abs.scal]) (ACalls.wf (by kernel_rfl) fun hs => acalls_of_awp [.tmp 2, .tmp 3] Tryz.func33 (by kernel_rfl) rfl rfl (Nat.le_of_ble_eq_true rfl) (by kernel_rfl) ?_)
  have hone := hv.one
  have up : Up H.next H (H.push ⟨55, true, [.int .i64 q, v]⟩) := (Up.refl _ H).push (Nat.le_refl _) _
  have e1 : (H.push ⟨55, true, [.int .i64 q, v]⟩).row H.next = some ⟨55, true, [.int .i64 q, v]⟩ := by rw [AH.push_row, if_pos rfl]
  have n1 : (H.push ⟨55, true, [.int .i64 q, v]⟩).next = H.next + 1 := rfl
  try simp (disch := first | omega | (simp only [L3] <;> omega)) only [Sall,evalOp,init,binA_s,binE,binI,unE,convE,okNil,builtE,gv,TD.isAgg,resV,↓reduceIte,Nat.reduceEqDiff,reduceCtorEq,Nat.reduceAdd,Nat.reduceMul,Nat.reduceLeDiff,quietOp,blindOp,Int.reduceEq,Int.reduceLT,Int.reduceLE,Nat.reduceLT,tiA, hone]
  revert up e1 n1
  generalize H.push ⟨55, true, [.int .i64 q, v]⟩ = H1
  intro up e1 n1
  have hv1 := hv.same (up.le hs).row
  try simp (disch := first | omega | (simp only [L3] <;> omega)) only [Sall,evalOp,init,binA_s,binE,binI,unE,convE,okNil,builtE,gv,TD.isAgg,resV,↓reduceIte,Nat.reduceEqDiff,reduceCtorEq,Nat.reduceAdd,Nat.reduceMul,Nat.reduceLeDiff,quietOp,blindOp,Int.reduceEq,Int.reduceLT,Int.reduceLE,Nat.reduceLT,tiA, e1]
  refine (eveningCode_c q v R true H1 hv1 hl hl2).to ?_
  unfold evC whB
  obtain hE | hE : evB q R = true ∨ evB q R = false := by cases evB q R <;> simp
  · rw [hE]
    have hE2 := hE
    obtain ⟨n, rfl, h4, h16, h20, hall⟩ := evB_at hE2
    have hEv : EvOk n R := ⟨h20, fun i hi => ⟨(hall i hi).2.1, (hall i hi).2.2.1⟩⟩
    have hR4 : ∀ i, i < R.length → (R.getD i []).length % 4 = 0 := fun i hi => (hall i hi).1
    rw [Int.toNat_natCast]
    try simp (disch := first | omega | (simp only [L3] <;> omega)) only [Sall,evalOp,init,binA_s,binE,binI,unE,convE,okNil,builtE,gv,TD.isAgg,resV,↓reduceIte,Nat.reduceEqDiff,reduceCtorEq,Nat.reduceAdd,Nat.reduceMul,Nat.reduceLeDiff,quietOp,blindOp,Int.reduceEq,Int.reduceLT,Int.reduceLE,Nat.reduceLT,tiA, if_true, e1, bne_self_eq_false]
    refine (isWhist_c n (by omega) v R H1 hv1 hEv).to ?_
    try simp (disch := first | omega | (simp only [L3] <;> omega)) only [Sall,evalOp,init,binA_s,binE,binI,unE,convE,okNil,builtE,gv,TD.isAgg,resV,↓reduceIte,Nat.reduceEqDiff,reduceCtorEq,Nat.reduceAdd,Nat.reduceMul,Nat.reduceLeDiff,quietOp,blindOp,Int.reduceEq,Int.reduceLT,Int.reduceLE,Nat.reduceLT,tiA, Bool.true_and]
    exact up
  · rw [hE]
    have e2 : ((1 : Int) != 0) = true := rfl
    try simp (disch := first | omega | (simp only [L3] <;> omega)) only [Sall,evalOp,init,binA_s,binE,binI,unE,convE,okNil,builtE,gv,TD.isAgg,resV,↓reduceIte,Nat.reduceEqDiff,reduceCtorEq,Nat.reduceAdd,Nat.reduceMul,Nat.reduceLeDiff,quietOp,blindOp,Int.reduceEq,Int.reduceLT,Int.reduceLE,Nat.reduceLT,tiA, e2, Bool.false_and]
    exact up
theorem specIsWhist_c (q : Int) (v : Value) (R : List (List Int)) (H : AH) (hv : Rd2 1 H v R) (hl : R.length ≤ 4194304) (hl2 : ∀ r ∈ R, r.length ≤ 4194304) :
    ACalls Tryz.prog 34 [.agg #[.int .i64 q, v]] H (is (.tuple #[.bool (whB q R), .int .i64 (evC q R)]) H) := by
  refine acalls_up (by simp [flat, Abs.scal]) (ACalls.wf (by kernel_rfl) fun hs => acalls_of_awp [.tmp 2, .tmp 3] Tryz.func34 (by kernel_rfl) rfl rfl (Nat.le_of_ble_eq_true rfl) (by kernel_rfl) ?_)
  have hone := hv.one
  have up : Up H.next H (H.push ⟨55, true, [.int .i64 q, v]⟩) := (Up.refl _ H).push (Nat.le_refl _) _
  have e1 : (H.push ⟨55, true, [.int .i64 q, v]⟩).row H.next = some ⟨55, true, [.int .i64 q, v]⟩ := by rw [AH.push_row, if_pos rfl]
  have n1 : (H.push ⟨55, true, [.int .i64 q, v]⟩).next = H.next + 1 := rfl
  try simp (disch := first | omega | (simp only [L3] <;> omega)) only [Sall,evalOp,init,binA_s,binE,binI,unE,convE,okNil,builtE,gv,TD.isAgg,resV,↓reduceIte,Nat.reduceEqDiff,reduceCtorEq,Nat.reduceAdd,Nat.reduceMul,Nat.reduceLeDiff,quietOp,blindOp,Int.reduceEq,Int.reduceLT,Int.reduceLE,Nat.reduceLT,tiA, hone]
  revert up e1 n1
  generalize H.push ⟨55, true, [.int .i64 q, v]⟩ = H1
  intro up e1 n1
  have hv1 := hv.same (up.le hs).row
  try simp (disch := first | omega | (simp only [L3] <;> omega)) only [Sall,evalOp,init,binA_s,binE,binI,unE,convE,okNil,builtE,gv,TD.isAgg,resV,↓reduceIte,Nat.reduceEqDiff,reduceCtorEq,Nat.reduceAdd,Nat.reduceMul,Nat.reduceLeDiff,quietOp,blindOp,Int.reduceEq,Int.reduceLT,Int.reduceLE,Nat.reduceLT,tiA, e1]
  refine (l06Is_c q v R H1 hv1 hl hl2).to ?_
  unfold evC whB
  obtain hE | hE : evB q R = true ∨ evB q R = false := by cases evB q R <;> simp
  · rw [hE]
    have hE2 := hE
    obtain ⟨n, rfl, h4, h16, h20, hall⟩ := evB_at hE2
    have hEv : EvOk n R := ⟨h20, fun i hi => ⟨(hall i hi).2.1, (hall i hi).2.2.1⟩⟩
    have hR4 : ∀ i, i < R.length → (R.getD i []).length % 4 = 0 := fun i hi => (hall i hi).1
    rw [Int.toNat_natCast]
    try simp (disch := first | omega | (simp only [L3] <;> omega)) only [Sall,evalOp,init,binA_s,binE,binI,unE,convE,okNil,builtE,gv,TD.isAgg,resV,↓reduceIte,Nat.reduceEqDiff,reduceCtorEq,Nat.reduceAdd,Nat.reduceMul,Nat.reduceLeDiff,quietOp,blindOp,Int.reduceEq,Int.reduceLT,Int.reduceLE,Nat.reduceLT,tiA, Bool.not_true, e1]
    refine (l06Whist_c n (by omega) v R H1 hv1 hEv).to ?_
    try simp (disch := first | omega | (simp only [L3] <;> omega)) only [Sall,evalOp,init,binA_s,binE,binI,unE,convE,okNil,builtE,gv,TD.isAgg,resV,↓reduceIte,Nat.reduceEqDiff,reduceCtorEq,Nat.reduceAdd,Nat.reduceMul,Nat.reduceLeDiff,quietOp,blindOp,Int.reduceEq,Int.reduceLT,Int.reduceLE,Nat.reduceLT,tiA, Bool.true_and]
    exact up
  · rw [hE]
    try simp (disch := first | omega | (simp only [L3] <;> omega)) only [Sall,evalOp,init,binA_s,binE,binI,unE,convE,okNil,builtE,gv,TD.isAgg,resV,↓reduceIte,Nat.reduceEqDiff,reduceCtorEq,Nat.reduceAdd,Nat.reduceMul,Nat.reduceLeDiff,quietOp,blindOp,Int.reduceEq,Int.reduceLT,Int.reduceLE,Nat.reduceLT,tiA, Bool.not_false, Bool.false_and]
    exact up
theorem IsTriple_c (q : Int) (v : Value) (R : List (List Int)) (H : AH) (hv : Rd2 1 H v R) (hl : R.length ≤ 4194304) (hl2 : ∀ r ∈ R, r.length ≤ 4194304) :
    ACalls Tryz.prog 35 [.agg #[.int .i64 q, v]] H (is (.tuple #[.bool (trB q R), .int .i64 (evC q R)]) H) := by
  refine acalls_up (by simp [flat, Abs.scal]) (ACalls.wf (by kernel_rfl) fun hs => acalls_of_awp [.tmp 2, .tmp 3] Tryz.func35 (by kernel_rfl) rfl rfl (Nat.le_of_ble_eq_true rfl) (by kernel_rfl) ?_)
  have hone := hv.one
  have up : Up H.next H (H.push ⟨55, true, [.int .i64 q, v]⟩) := (Up.refl _ H).push (Nat.le_refl _) _
  have e1 : (H.push ⟨55, true, [.int .i64 q, v]⟩).row H.next = some ⟨55, true, [.int .i64 q, v]⟩ := by rw [AH.push_row, if_pos rfl]
  have n1 : (H.push ⟨55, true, [.int .i64 q, v]⟩).next = H.next + 1 := rfl
  try simp (disch := first | omega | (simp only [L3] <;> omega)) only [Sall,evalOp,init,binA_s,binE,binI,unE,convE,okNil,builtE,gv,TD.isAgg,resV,↓reduceIte,Nat.reduceEqDiff,reduceCtorEq,Nat.reduceAdd,Nat.reduceMul,Nat.reduceLeDiff,quietOp,blindOp,Int.reduceEq,Int.reduceLT,Int.reduceLE,Nat.reduceLT,tiA, hone]
  revert up e1 n1
  generalize H.push ⟨55, true, [.int .i64 q, v]⟩ = H1
  intro up e1 n1
  have hv1 := hv.same (up.le hs).row
  try simp (disch := first | omega | (simp only [L3] <;> omega)) only [Sall,evalOp,init,binA_s,binE,binI,unE,convE,okNil,builtE,gv,TD.isAgg,resV,↓reduceIte,Nat.reduceEqDiff,reduceCtorEq,Nat.reduceAdd,Nat.reduceMul,Nat.reduceLeDiff,quietOp,blindOp,Int.reduceEq,Int.reduceLT,Int.reduceLE,Nat.reduceLT,tiA, e1]
  refine (eveningCode_c q v R true H1 hv1 hl hl2).to ?_
  unfold evC trB
  obtain hE | hE : evB q R = true ∨ evB q R = false := by cases evB q R <;> simp
  · rw [hE]
    have hE2 := hE
    obtain ⟨n, rfl, h4, h16, h20, hall⟩ := evB_at hE2
    have hEv : EvOk n R := ⟨h20, fun i hi => ⟨(hall i hi).2.1, (hall i hi).2.2.1⟩⟩
    have hR4 : ∀ i, i < R.length → (R.getD i []).length % 4 = 0 := fun i hi => (hall i hi).1
    rw [Int.toNat_natCast]
    try simp (disch := first | omega | (simp only [L3] <;> omega)) only [Sall,evalOp,init,binA_s,binE,binI,unE,convE,okNil,builtE,gv,TD.isAgg,resV,↓reduceIte,Nat.reduceEqDiff,reduceCtorEq,Nat.reduceAdd,Nat.reduceMul,Nat.reduceLeDiff,quietOp,blindOp,Int.reduceEq,Int.reduceLT,Int.reduceLE,Nat.reduceLT,tiA, if_true, e1, bne_self_eq_false]
    refine (isWhist_c n (by omega) v R H1 hv1 hEv).to ?_
    obtain hW | hW : whistB n R = true ∨ whistB n R = false := by cases whistB n R <;> simp
    · rw [hW]
      try simp (disch := first | omega | (simp only [L3] <;> omega)) only [Sall,evalOp,init,binA_s,binE,binI,unE,convE,okNil,builtE,gv,TD.isAgg,resV,↓reduceIte,Nat.reduceEqDiff,reduceCtorEq,Nat.reduceAdd,Nat.reduceMul,Nat.reduceLeDiff,quietOp,blindOp,Int.reduceEq,Int.reduceLT,Int.reduceLE,Nat.reduceLT,tiA, e1]
      refine (opponents1_c n (by omega) v R H1 hv1 hEv).mono ?_
      rintro u H2 ⟨up2, f2⟩
      have n2 := up2.next
      refine Holds.mp ?_
      try simp (disch := first | omega | (simp only [L3] <;> omega)) only [Sall,evalOp,init,binA_s,binE,binI,unE,convE,okNil,builtE,gv,TD.isAgg,resV,↓reduceIte,Nat.reduceEqDiff,reduceCtorEq,Nat.reduceAdd,Nat.reduceMul,Nat.reduceLeDiff,quietOp,blindOp,Int.reduceEq,Int.reduceLT,Int.reduceLE,Nat.reduceLT,tiA, true_and]
      refine (areAll_c 148 (fun x => x == 1) once_c u n _ H2 f2.rd (tabM_sq _ _ _) (by omega)).to ?_
      try simp (disch := first | omega | (simp only [L3] <;> omega)) only [Sall,evalOp,init,binA_s,binE,binI,unE,convE,okNil,builtE,gv,TD.isAgg,resV,↓reduceIte,Nat.reduceEqDiff,reduceCtorEq,Nat.reduceAdd,Nat.reduceMul,Nat.reduceLeDiff,quietOp,blindOp,Int.reduceEq,Int.reduceLT,Int.reduceLE,Nat.reduceLT,tiA, Bool.true_and]
      exact up.trans up2 (by omega)
    · rw [hW]
      try simp (disch := first | omega | (simp only [L3] <;> omega)) only [Sall,evalOp,init,binA_s,binE,binI,unE,convE,okNil,builtE,gv,TD.isAgg,resV,↓reduceIte,Nat.reduceEqDiff,reduceCtorEq,Nat.reduceAdd,Nat.reduceMul,Nat.reduceLeDiff,quietOp,blindOp,Int.reduceEq,Int.reduceLT,Int.reduceLE,Nat.reduceLT,tiA, Bool.false_and, Bool.and_false]
      exact up
  · rw [hE]
    have e2 : ((1 : Int) != 0) = true := rfl
    try simp (disch := first | omega | (simp only [L3] <;> omega)) only [Sall,evalOp,init,binA_s,binE,binI,unE,convE,okNil,builtE,gv,TD.isAgg,resV,↓reduceIte,Nat.reduceEqDiff,reduceCtorEq,Nat.reduceAdd,Nat.reduceMul,Nat.reduceLeDiff,quietOp,blindOp,Int.reduceEq,Int.reduceLT,Int.reduceLE,Nat.reduceLT,tiA, e2, Bool.false_and]
    exact up
theorem specIsTriple_c (q : Int) (v : Value) (R : List (List Int)) (H : AH) (hv : Rd2 1 H v R) (hl : R.length ≤ 4194304) (hl2 : ∀ r ∈ R, r.length ≤ 4194304) :
    ACalls Tryz.prog 36 [.agg #[.int .i64 q, v]] H (is (.tuple #[.bool (trB q R), .int .i64 (evC q R)]) H) := by
  refine acalls_up (by simp [flat, Abs.scal]) (ACalls.wf (by kernel_rfl) fun hs => acalls_of_awp [.tmp 2, .tmp 3] Tryz.func36 (by kernel_rfl) rfl rfl (Nat.le_of_ble_eq_true rfl) (by kernel_rfl) ?_)
  have hone := hv.one
  have up : Up H.next H (H.push ⟨55, true, [.int .i64 q, v]⟩) := (Up.refl _ H).push (Nat.le_refl _) _
  have e1 : (H.push ⟨55, true, [.int .i64 q, v]⟩).row H.next = some ⟨55, true, [.int .i64 q, v]⟩ := by rw [AH.push_row, if_pos rfl]
  have n1 : (H.push ⟨55, true, [.int .i64 q, v]⟩).next = H.next + 1 := rfl
  try simp (disch := first | omega | (simp only [L3] <;> omega)) only [Sall,evalOp,init,binA_s,binE,binI,unE,convE,okNil,builtE,gv,TD.isAgg,resV,↓reduceIte,Nat.reduceEqDiff,reduceCtorEq,Nat.reduceAdd,Nat.reduceMul,Nat.reduceLeDiff,quietOp,blindOp,Int.reduceEq,Int.reduceLT,Int.reduceLE,Nat.reduceLT,tiA, hone]
  revert up e1 n1
  generalize H.push ⟨55, true, [.int .i64 q, v]⟩ = H1
  intro up e1 n1
  have hv1 := hv.same (up.le hs).row
  try simp (disch := first | omega | (simp only [L3] <;> omega)) only [Sall,evalOp,init,binA_s,binE,binI,unE,convE,okNil,builtE,gv,TD.isAgg,resV,↓reduceIte,Nat.reduceEqDiff,reduceCtorEq,Nat.reduceAdd,Nat.reduceMul,Nat.reduceLeDiff,quietOp,blindOp,Int.reduceEq,Int.reduceLT,Int.reduceLE,Nat.reduceLT,tiA, e1]
  refine (l06Is_c q v R H1 hv1 hl hl2).to ?_
  unfold evC trB
  obtain hE | hE : evB q R = true ∨ evB q R = false := by cases evB q R <;> simp
  · rw [hE]
    have hE2 := hE
    obtain ⟨n, rfl, h4, h16, h20, hall⟩ := evB_at hE2
    have hEv : EvOk n R := ⟨h20, fun i hi => ⟨(hall i hi).2.1, (hall i hi).2.2.1⟩⟩
    have hR4 : ∀ i, i < R.length → (R.getD i []).length % 4 = 0 := fun i hi => (hall i hi).1
    rw [Int.toNat_natCast]
    try simp (disch := first | omega | (simp only [L3] <;> omega)) only [Sall,evalOp,init,binA_s,binE,binI,unE,convE,okNil,builtE,gv,TD.isAgg,resV,↓reduceIte,Nat.reduceEqDiff,reduceCtorEq,Nat.reduceAdd,Nat.reduceMul,Nat.reduceLeDiff,quietOp,blindOp,Int.reduceEq,Int.reduceLT,Int.reduceLE,Nat.reduceLT,tiA, Bool.not_true, e1]
    refine (l06Whist_c n (by omega) v R H1 hv1 hEv).to ?_
    obtain hW | hW : whistB n R = true ∨ whistB n R = false := by cases whistB n R <;> simp
    · rw [hW]
      have z1 : zeros 1 [.int .i64 0] = [.int .i64 0] := rfl
      try simp (disch := first | omega | (simp only [L3] <;> omega)) only [Sall,evalOp,init,binA_s,binE,binI,unE,convE,okNil,builtE,gv,TD.isAgg,resV,↓reduceIte,Nat.reduceEqDiff,reduceCtorEq,Nat.reduceAdd,Nat.reduceMul,Nat.reduceLeDiff,quietOp,blindOp,Int.reduceEq,Int.reduceLT,Int.reduceLE,Nat.reduceLT,tiA, e1, z1, slCells]
      obtain ⟨H3, e3⟩ : ∃ H3, H3 = H1.push ⟨3, true, [.int .i64 2]⟩ := ⟨_, rfl⟩
      have up3 : Up H1.next H1 H3 := by rw [e3]; exact (Up.refl _ _).push (Nat.le_refl _) _
      have r3 : H3.row H1.next = some ⟨3, true, [.int .i64 2]⟩ := by rw [e3, AH.push_row, if_pos rfl]
      have n3 : H3.next = H1.next + 1 := by rw [e3]; rfl
      rw [← e3]
      clear e3
      have U3 : Up H.next H H3 := up.trans up3 (by omega)
      refine (l06Table_c n (by omega) v R (.slice (some ⟨H1.next, 0, some 1⟩) 1 1) [2] w1L way2 H3 (hv.same (U3.le hs).row) ⟨rfl, .inr ⟨H1.next, 0, _, _, _, rfl, r3, Nat.le_refl _, rfl⟩⟩ (by decide) (by decide) hEv hR4).mono ?_
      rintro u H4 ⟨up4, f4⟩
      have n4 := up4.next
      refine Holds.mp ?_
      try simp (disch := first | omega | (simp only [L3] <;> omega)) only [Sall,evalOp,init,binA_s,binE,binI,unE,convE,okNil,builtE,gv,TD.isAgg,resV,↓reduceIte,Nat.reduceEqDiff,reduceCtorEq,Nat.reduceAdd,Nat.reduceMul,Nat.reduceLeDiff,quietOp,blindOp,Int.reduceEq,Int.reduceLT,Int.reduceLE,Nat.reduceLT,tiA, true_and]
      refine (l06Each_c u n _ 1 H4 f4.rd (tabM_sq _ _ _) (by omega)).to ?_
      try simp (disch := first | omega | (simp only [L3] <;> omega)) only [Sall,evalOp,init,binA_s,binE,binI,unE,convE,okNil,builtE,gv,TD.isAgg,resV,↓reduceIte,Nat.reduceEqDiff,reduceCtorEq,Nat.reduceAdd,Nat.reduceMul,Nat.reduceLeDiff,quietOp,blindOp,Int.reduceEq,Int.reduceLT,Int.reduceLE,Nat.reduceLT,tiA, Bool.true_and]
      exact U3.trans up4 (by omega)
    · rw [hW]
      try simp (disch := first | omega | (simp only [L3] <;> omega)) only [Sall,evalOp,init,binA_s,binE,binI,unE,convE,okNil,builtE,gv,TD.isAgg,resV,↓reduceIte,Nat.reduceEqDiff,reduceCtorEq,Nat.reduceAdd,Nat.reduceMul,Nat.reduceLeDiff,quietOp,blindOp,Int.reduceEq,Int.reduceLT,Int.reduceLE,Nat.reduceLT,tiA, Bool.false_and, Bool.and_false]
      exact up
  · rw [hE]
    try simp (disch := first | omega | (simp only [L3] <;> omega)) only [Sall,evalOp,init,binA_s,binE,binI,unE,convE,okNil,builtE,gv,TD.isAgg,resV,↓reduceIte,Nat.reduceEqDiff,reduceCtorEq,Nat.reduceAdd,Nat.reduceMul,Nat.reduceLeDiff,quietOp,blindOp,Int.reduceEq,Int.reduceLT,Int.reduceLE,Nat.reduceLT,tiA, Bool.not_false, Bool.false_and]
    exact up
end Go.Proofs.YtpienljnoaendaaGreat.A
end

section
namespace Go.Abs
open Go Go.RowKit
def Th.cap (k : Nat) (ty : TypeId) (v : Value) (n : Nat) (vs : List Value) : Th where
  p := fun H S => vs.length = n * k ∧ ((n = 0 ∧ v = .slice none 0 0) ∨ ∃ i rest, S i ∧ v = .slice (some ⟨i, 0, some k⟩) n n ∧ H.row i = some ⟨ty, true, vs ++ rest⟩)
  loc := fun H H' S S' hS hr h => ⟨h.1, h.2.imp id fun ⟨i, z, h1, h2, h3⟩ => ⟨i, z, hS i h1, h2, hr i _ h1 h3⟩⟩
theorem cap_of_sl {k n : Nat} {ty : TypeId} {v : Value} {vs : List Value} {H : AH} {S : Nat → Prop} (h : (Th.sl k ty v n vs).p H S) : (Th.cap k ty v n vs).p H S :=
  ⟨h.1, h.2.imp id fun ⟨i, h1, h2, h3⟩ => ⟨i, [], h1, h2, by rw [List.append_nil]; exact h3⟩⟩
theorem Ow.tell {B H : AH} {L : List Th} (h : Ow B H L) (k : Nat) {p p' : Th} (hk : L[k]? = some p) (hp : ∀ S, p.p H S → p'.p H S) : Ow B H (L.set k p') :=
  h.upd hk (Nat.le_refl _) h.sc fun S hS q => ⟨fun _ _ _ => rfl, fun S' hS' _ => p'.loc H H _ _ hS' (fun i r _ hr => hr) (hp S q)⟩
theorem Ow.toCap {B H : AH} {L : List Th} (h : Ow B H L) (k : Nat) {z n : Nat} {ty : TypeId} {v : Value} {vs : List Value} (hk : L[k]? = some (.sl z ty v n vs)) : Ow B H (L.set k (.cap z ty v n vs)) :=
  h.tell k hk fun S q => cap_of_sl q
theorem Ow.capLen {B H : AH} {L : List Th} (h : Ow B H L) (k : Nat) {z n : Nat} {ty : TypeId} {v : Value} {vs : List Value} (hk : L[k]? = some (.cap z ty v n vs)) : vs.length = n * z := by
  obtain ⟨S, _, hp⟩ := h.at hk
  exact hp.1
theorem Ow.capOne {B H : AH} {L : List Th} (h : Ow B H L) (k : Nat) {z n : Nat} {ty : TypeId} {v : Value} {vs : List Value} (hk : L[k]? = some (.cap z ty v n vs)) : v.oneCell' = true := by
  obtain ⟨S, _, hp⟩ := h.at hk
  rcases hp.2 with ⟨_, rfl⟩ | ⟨i, _, _, rfl, _⟩ <;> rfl
theorem Ow.capGet {B H : AH} {L : List Th} (h : Ow B H L) (k : Nat) {z n : Nat} {ty : TypeId} {v : Value} {vs : List Value} (hk : L[k]? = some (.cap z ty v n vs)) (hn : 0 < n) :
    ∃ i rest, B.next ≤ i ∧ i < H.next ∧ v = .slice (some ⟨i, 0, some z⟩) n n ∧ H.row i = some ⟨ty, true, vs ++ rest⟩ := by
  obtain ⟨S, hS, hp⟩ := h.at hk
  rcases hp.2 with ⟨h0, _⟩ | ⟨i, rest, h1, h2, h3⟩
  · omega
  · exact ⟨i, rest, (hS i h1).1, (hS i h1).2, h2, h3⟩
theorem cap_rs {z n : Nat} {ty : TypeId} {v : Value} {l : List Int} {H : AH} {S : Nat → Prop} (hp : (Th.cap z ty v n (ints l)).p H S) : Rs z H v n l := by
  have hl := hp.1
  rw [ints_length] at hl
  rcases hp.2 with ⟨rfl, rfl⟩ | ⟨i, rest, h1, rfl, h3⟩
  · exact ⟨⟨hl, .inl ⟨rfl, none, 0, rfl, fun _ => rfl⟩⟩, .inl rfl⟩
  · refine ⟨⟨hl, .inr ⟨i, 0, some z, n, _, rfl, h3, ?_, ?_⟩⟩, .inr (.inl ⟨i, 0, n, rfl⟩)⟩
    · simp [ints_length, hl]
    · simp only [seg, List.drop_zero]
      rw [← hl, ← ints_length l, List.take_left' rfl]
theorem Ow.capRs {B H : AH} {L : List Th} (h : Ow B H L) (k : Nat) {z n : Nat} {ty : TypeId} {v : Value} {l : List Int} (hk : L[k]? = some (.cap z ty v n (ints l))) : Rs z H v n l := by
  obtain ⟨S, hS, hp⟩ := h.at hk
  exact cap_rs hp
theorem Ow.cut {B H : AH} {L : List Th} (h : Ow B H L) (k : Nat) {z n : Nat} {ty : TypeId} {v : Value} {l : List Int} (hk : L[k]? = some (.cap z ty v n (ints l))) {hi : Option Int} {b : Nat} (hb : hi.getD (n : Int) = (b : Int)) (hbn : b ≤ n) :
    ∃ w, (∀ (P : Program) (E : TI) (K : Value → AH → Prop) (H' : AH), E.size = z → K w H' → runOut P H' (sliceE E v none hi none H') K) ∧ Ow B H (L.set k (.cap z ty w b (ints (l.take (b * z))))) := by
  have hl := h.capLen k hk
  rw [ints_length] at hl
  have hlb : (l.take (b * z)).length = b * z := by
    rw [List.length_take]
    exact Nat.min_eq_left (by rw [hl]; exact Nat.mul_le_mul_right z hbn)
  obtain ⟨S0, hS0, hp0⟩ := h.at hk
  rcases hp0.2 with ⟨rfl, rfl⟩ | ⟨i, rest, h1, rfl, h3⟩
  · obtain rfl : b = 0 := by omega
    refine ⟨.slice none 0 0, fun P E K H' hE hK => ?_, h.tell k hk fun S q => ⟨by rw [ints_length, hlb], .inl ⟨rfl, rfl⟩⟩⟩
    unfold sliceE
    rw [if_neg (by simp)]
    simp only [asSl_nil, runOut_need, runOut_val]
    refine ⟨⟨rfl, ?_, rfl⟩, hK⟩
    cases hi with
    | none => rfl
    | some x => simpa using hb
  · refine ⟨.slice (some ⟨i, 0, some z⟩) b b, fun P E K H' hE hK => ?_, h.tell k hk fun S q => ⟨by rw [ints_length, hlb], ?_⟩⟩
    · unfold sliceE
      rw [if_neg (by simp)]
      have e0 : ((none : Option Int).getD 0) = 0 := rfl
      simp only [asSl_some, runOut_need, runOut_val, hb, e0, Int.toNat_natCast, hE, Int.toNat_zero, Nat.zero_mul, Nat.add_zero, Nat.sub_zero]
      exact ⟨⟨by omega, by omega, by omega, trivial⟩, hK⟩
    · rcases q.2 with ⟨_, h7⟩ | ⟨i', rest', g1, g2, g3⟩
      · cases h7
      cases g2
      refine .inr ⟨i, ints (l.drop (b * z)) ++ rest', g1, rfl, ?_⟩
      rw [g3, ← List.append_assoc, ints_append, List.take_append_drop]
theorem Ow.capPut {B H : AH} {L : List Th} (h : Ow B H L) (k : Nat) {z n i m c o : Nat} {u : Option Nat} {ty : TypeId} {vs vs' rest : List Value} (hk : L[k]? = some (.cap z ty (.slice (some ⟨i, o, u⟩) m c) n vs)) (hr : H.row i = some ⟨ty, true, vs ++ rest⟩) (hl : vs'.length = vs.length) :
    Ow B (H.setCells i (vs' ++ rest)) (L.set k (.cap z ty (.slice (some ⟨i, o, u⟩) m c) n vs')) := by
  refine h.upd hk (Nat.le_refl _) (h.sc.set _ _) fun S hS hp => ?_
  rcases hp.2 with ⟨_, h1⟩ | ⟨i', rest', h1, h2, h3⟩
  · cases h1
  · cases h2
    exact ⟨fun j hj hjS => by rw [AH.setCells_row, if_neg (fun e => hjS (by rw [e]; exact h1))], fun S' hS' _ => ⟨by rw [hl]; exact hp.1, .inr ⟨i, rest, hS' i h1, rfl, by rw [AH.setCells_row, if_pos rfl, hr]; rfl⟩⟩⟩
theorem Ow.alone {B H : AH} {L : List Th} (h : Ow B H L) : ∃ B' H3, Ow B' H3 L ∧ ∀ i r, H3.row i = some r → B.next ≤ i ∧ H.row i = some r := by
  have hn := h.next
  obtain ⟨w, hw⟩ := h.own
  refine ⟨⟨B.next, fun _ => none⟩, ⟨H.next, fun i => if B.next ≤ i ∧ i < H.next then H.row i else none⟩, ⟨fun i r hr => ?_, hn, fun i hi => ?_, w, fun k p hk => ?_⟩, fun i r hr => ?_⟩
  · dsimp only at hr ⊢
    split at hr
    · rename_i h1; exact h1.2
    · cases hr
  · dsimp only at hi ⊢
    rw [if_neg (by omega)]
  · refine p.loc H _ _ _ (fun j hj => hj) (fun j r hj hr => ?_) (hw k p hk)
    show (if B.next ≤ j ∧ j < H.next then H.row j else none) = some r
    rw [if_pos ⟨hj.1, hj.2.1⟩]; exact hr
  · dsimp only at hr
    split at hr
    · rename_i h1; exact ⟨h1.1, hr⟩
    · cases hr
end Go.Abs
end

section
namespace Go.Abs
open Go Go.RowKit
theorem Ow.only {B H : AH} {L : List Th} (h : Ow B H L) (k : Nat) {p : Th} (hk : L[k]? = some p) : Ow B H [p] :=
  h.sub (fun _ => k) (fun j hj => by
    have hj : j < 1 := hj
    obtain rfl : j = 0 := by omega
    exact hk) fun i j hi hj _ => by
    have hi : i < 1 := hi
    have hj : j < 1 := hj
    omega
theorem Ow.pick3 {B H : AH} {L : List Th} (h : Ow B H L) (i j k : Nat) {p q r : Th} (hi : L[i]? = some p) (hj : L[j]? = some q) (hk : L[k]? = some r) (hij : i ≠ j) (hik : i ≠ k) (hjk : j ≠ k) : Ow B H [p, q, r] :=
  h.sub (fun x => if x = 0 then i else if x = 1 then j else k) (fun x hx => by
    have hx : x < 3 := hx
    rcases x with _ | _ | _ | x
    · exact hi
    · exact hj
    · exact hk
    · omega) fun x y hx hy e => by
    have hx : x < 3 := hx
    have hy : y < 3 := hy
    have e : (if x = 0 then i else if x = 1 then j else k) = (if y = 0 then i else if y = 1 then j else k) := e
    repeat' split at e
    all_goals omega
theorem Ow.pick2 {B H : AH} {L : List Th} (h : Ow B H L) (i j : Nat) {p q : Th} (hi : L[i]? = some p) (hj : L[j]? = some q) (hij : i ≠ j) : Ow B H [p, q] :=
  h.sub (fun x => if x = 0 then i else j) (fun x hx => by
    have hx : x < 2 := hx
    rcases x with _ | _ | x
    · exact hi
    · exact hj
    · omega) fun x y hx hy e => by
    have hx : x < 2 := hx
    have hy : y < 2 := hy
    have e : (if x = 0 then i else j) = (if y = 0 then i else j) := e
    repeat' split at e
    all_goals omega
def Th.see (Q : AH → Prop) : Th where
  p := fun H S => ∀ H' : AH, (∀ (i : Nat) (r : Row), S i → H.row i = some r → H'.row i = some r) → Q H'
  loc := fun H H' S S' hS hr h H2 h2 => h H2 fun i r hi hr' => h2 i r (hS i hi) (hr i r hi hr')
theorem see_of {p : Th} {Q : AH → Prop} (hQ : ∀ H S, p.p H S → Q H) {H : AH} {S : Nat → Prop} (h : p.p H S) : (Th.see Q).p H S :=
  fun H' hh => hQ H' S (p.loc H H' S S (fun _ h => h) hh h)
theorem Ow.toSee {B H : AH} {L : List Th} (h : Ow B H L) (k : Nat) {p : Th} (hk : L[k]? = some p) {Q : AH → Prop} (hQ : ∀ H S, p.p H S → Q H) : Ow B H (L.set k (.see Q)) :=
  h.tell k hk fun S hp => see_of hQ hp
theorem Ow.sees {B H : AH} {L : List Th} (h : Ow B H L) (k : Nat) {Q : AH → Prop} (hk : L[k]? = some (.see Q)) : Q H := by
  obtain ⟨S, _, hp⟩ := h.at hk
  exact hp H fun _ _ _ h => h
theorem Ow.addSee {B H : AH} {L : List Th} (h : Ow B H L) {Q : AH → Prop} (hQ : ∀ H, Q H) : Ow B H (L ++ [.see Q]) := h.add _ (Nat.le_refl _) h.sc (fun _ _ => rfl) fun _ _ H' _ => hQ H'
theorem sl_rd {ty : TypeId} {k n : Nat} {v : Value} {l : List Int} {H : AH} {S : Nat → Prop} (hp : (Th.sl k ty v n (ints l)).p H S) : Rd k H v n l := (cap_rs (cap_of_sl hp)).rd
def RowsOk (vs : List Value) (ll : List (List Int)) (H : AH) : Prop := vs.length = ll.length ∧ ∀ j, j < ll.length → ∃ x, vs[j]? = some x ∧ Rd 1 H x (ll.getD j []).length (ll.getD j [])
theorem RowsOk.nil (H : AH) : RowsOk [] [] H := ⟨rfl, fun j h => by simp at h⟩
theorem RowsOk.snoc {vs : List Value} {ll : List (List Int)} {H : AH} {x : Value} {l : List Int} (h : RowsOk vs ll H) (hx : Rd 1 H x l.length l) : RowsOk (vs ++ [x]) (ll ++ [l]) H := by
  refine ⟨by simp [h.1], fun j hj => ?_⟩
  rw [List.length_append, List.length_singleton] at hj
  by_cases e : j < ll.length
  · obtain ⟨y, h1, h2⟩ := h.2 j e
    have e2 : (ll ++ [l]).getD j [] = ll.getD j [] := by rw [List.getD_eq_getElem?_getD, List.getD_eq_getElem?_getD, List.getElem?_append_left e]
    rw [e2]
    exact ⟨y, by rw [List.getElem?_append_left (by rw [h.1]; exact e)]; exact h1, h2⟩
  · obtain rfl : j = ll.length := by omega
    have e2 : (ll ++ [l]).getD ll.length [] = l := by rw [List.getD_eq_getElem?_getD, List.getElem?_append_right (Nat.le_refl _), Nat.sub_self]; rfl
    rw [e2]
    exact ⟨x, by rw [← h.1, List.getElem?_append_right (Nat.le_refl _), Nat.sub_self]; rfl, hx⟩
theorem RowsOk.app {vs ws : List Value} {ll mm : List (List Int)} {H : AH} (h : RowsOk vs ll H) (k : RowsOk ws mm H) : RowsOk (vs ++ ws) (ll ++ mm) H := by
  refine ⟨by simp [h.1, k.1], fun j hj => ?_⟩
  rw [List.length_append] at hj
  by_cases e : j < ll.length
  · obtain ⟨y, h1, h2⟩ := h.2 j e
    have e2 : (ll ++ mm).getD j [] = ll.getD j [] := by rw [List.getD_eq_getElem?_getD, List.getD_eq_getElem?_getD, List.getElem?_append_left e]
    rw [e2]
    exact ⟨y, by rw [List.getElem?_append_left (by rw [h.1]; exact e)]; exact h1, h2⟩
  · obtain ⟨y, h1, h2⟩ := k.2 (j - ll.length) (by omega)
    have e2 : (ll ++ mm).getD j [] = mm.getD (j - ll.length) [] := by rw [List.getD_eq_getElem?_getD, List.getD_eq_getElem?_getD, List.getElem?_append_right (by omega)]
    rw [e2]
    exact ⟨y, by rw [List.getElem?_append_right (by rw [h.1]; omega), h.1]; exact h1, h2⟩
theorem RowsOk.rd2 {ty : TypeId} {vs : List Value} {ll : List (List Int)} {H : AH} {S : Nat → Prop} {u : Value} {m : Nat} (h : RowsOk vs ll H) (hp : (Th.sl 1 ty u m vs).p H S) : Rd2 1 H u ll := by
  have hm : m = ll.length := by have := hp.1; have := h.1; omega
  rcases hp.2 with ⟨h0, h1⟩ | ⟨i, _, h1, h2⟩
  · exact .inl ⟨List.eq_nil_of_length_eq_zero (by omega), none, 0, h1, fun _ => rfl⟩
  · refine .inr ⟨i, 0, some 1, _, _, by rw [h1, hm], h2, fun j hj => ?_⟩
    obtain ⟨x, hx, hr⟩ := h.2 j hj
    exact ⟨x, _, by simpa using hx, hr⟩
theorem Ow.addRow {B H : AH} {L : List Th} (h : Ow B H L) (k m : Nat) {vs : List Value} {ll : List (List Int)} {q : Th} {x : Value} {l : List Int} (hk : L[k]? = some (.see (RowsOk vs ll))) (hm : L[m]? = some q) (hkm : k ≠ m) (hq : ∀ H S, q.p H S → Rd 1 H x l.length l) :
    Ow B H (((L.set k ((Th.see (RowsOk vs ll)).both q)).set m .no).set k (.see (RowsOk (vs ++ [x]) (ll ++ [l])))) := by
  have hM := h.merge k m hk hm hkm
  refine hM.toSee k (p := (Th.see (RowsOk vs ll)).both q) ?_ fun H S hp => ?_
  · rw [List.getElem?_set, if_neg (fun e => hkm e.symm), List.getElem?_set, if_pos rfl, if_pos (List.getElem?_eq_some_iff.1 hk).1]
  · obtain ⟨o, h1, h2⟩ := hp
    exact (h1 H fun _ _ _ h => h).snoc (hq _ _ h2)
def Rw (u : Value) (ws : List Value) (ll : List (List Int)) (H : AH) : Prop :=
  RowsOk ws ll H ∧ ((u = .slice none 0 0 ∧ ws = []) ∨ ∃ i o s c r, u = .slice (some ⟨i, o, s⟩) ws.length c ∧ H.row i = some r ∧ o + ws.length ≤ r.cells.length ∧ seg r.cells o ws.length = ws)
theorem Rw.rd2 {u : Value} {ws : List Value} {ll : List (List Int)} {H : AH} (h : Rw u ws ll H) : Rd2 1 H u ll := by
  obtain ⟨h1, h2⟩ := h
  rcases h2 with ⟨e1, e2⟩ | ⟨i, o, s, c, r, e1, h3, h4, h5⟩
  · exact .inl ⟨List.eq_nil_of_length_eq_zero (by rw [← h1.1, e2]; rfl), none, 0, e1, fun _ => rfl⟩
  · refine .inr ⟨i, o, s, c, r, by rw [e1, h1.1], h3, fun j hj => ?_⟩
    obtain ⟨x, hx, hr⟩ := h1.2 j hj
    refine ⟨x, _, ?_, hr⟩
    rw [← h5] at hx
    simp only [seg, List.getElem?_take, List.getElem?_drop] at hx
    rw [if_pos (by rw [h1.1]; exact hj)] at hx
    exact hx
theorem rw_of_sl {ty : TypeId} {vs : List Value} {ll : List (List Int)} {H : AH} {S : Nat → Prop} {u : Value} {m : Nat} (h : RowsOk vs ll H) (hp : (Th.sl 1 ty u m vs).p H S) : Rw u vs ll H := by
  have hm : m = vs.length := by have := hp.1; omega
  refine ⟨h, ?_⟩
  rcases hp.2 with ⟨h0, h1⟩ | ⟨i, _, h1, h2⟩
  · exact .inl ⟨h1, List.eq_nil_of_length_eq_zero (by omega)⟩
  · exact .inr ⟨i, 0, some 1, m, _, by rw [h1, hm], h2, by simp, seg_all _ _ rfl⟩
theorem Ow.toRw {B H : AH} {L : List Th} (h : Ow B H L) (k m : Nat) {ty : TypeId} {u : Value} {n : Nat} {vs : List Value} {ll : List (List Int)} (hk : L[k]? = some (.sl 1 ty u n vs)) (hm : L[m]? = some (.see (RowsOk vs ll))) (hkm : k ≠ m) :
    Ow B H [.see (Rw u vs ll)] := by
  have hM := h.merge k m hk hm hkm
  have := hM.toSee k (p := (Th.sl 1 ty u n vs).both (.see (RowsOk vs ll))) (Q := Rw u vs ll) (by
    rw [List.getElem?_set, if_neg (fun e => hkm e.symm), List.getElem?_set, if_pos rfl, if_pos (List.getElem?_eq_some_iff.1 hk).1]) fun H S hp => by
    obtain ⟨o, h1, h2⟩ := hp
    exact rw_of_sl (h2 H fun _ _ _ h => h) h1
  exact this.only k (by rw [List.getElem?_set, if_pos rfl, if_pos (by simpa using (List.getElem?_eq_some_iff.1 hk).1)])
theorem sl2_rw {ty ty' : TypeId} {u : Value} {ll : List (List Int)} {H : AH} {S : Nat → Prop} (hp : (Th.sl2 (Value.int .i64) ty ty' u ll).p H S) : ∃ ws, ∀ S', (Th.sl2 (Value.int .i64) ty ty' u ll).p H S' → (Th.see (Rw u ws ll)).p H S' := by
  rcases hp with ⟨h1, h2⟩ | ⟨i, vs, o, h1, h2, h3, h4, h5, h6⟩
  · subst h1; subst h2
    exact ⟨[], fun S' _ H' _ => ⟨RowsOk.nil _, .inl ⟨rfl, rfl⟩⟩⟩
  · refine ⟨vs, fun S' hp' H' hH => ?_⟩
    rcases hp' with ⟨g1, g2⟩ | ⟨i', vs', o', g1, g2, g3, g4, g5, g6⟩
    · rw [g2] at h3; cases h3
    · obtain rfl : i = i' := by rw [h3] at g3; cases g3; rfl
      obtain rfl : vs = vs' := by rw [h4] at g4; cases g4; rfl
      refine ⟨⟨g5, fun j hj => ?_⟩, .inr ⟨i, 0, some 1, ll.length, _, by rw [g3, g5], hH _ _ g1 g4, by simp, seg_all _ _ rfl⟩⟩
      obtain ⟨x, hx, hq⟩ := g6 j hj
      have hf : (Th.sl 1 ty' x (ll.getD j []).length (ints (ll.getD j []))).p H (fun z => S' z ∧ o' z = j + 1) := hq
      exact ⟨x, hx, (cap_rs (cap_of_sl (sl_at hf (fun _ h => h) fun z r hz hr => hH z r hz.1 hr))).rd⟩
theorem Ow.sl2Rw {B H : AH} {L : List Th} (h : Ow B H L) (k : Nat) {ty ty' : TypeId} {u : Value} {ll : List (List Int)} (hk : L[k]? = some (.sl2 (Value.int .i64) ty ty' u ll)) : ∃ ws, Ow B H [.see (Rw u ws ll)] := by
  obtain ⟨S, _, hp⟩ := h.at hk
  obtain ⟨ws, hw⟩ := sl2_rw hp
  exact ⟨ws, (h.tell k hk hw).only k (by rw [List.getElem?_set, if_pos rfl, if_pos (List.getElem?_eq_some_iff.1 hk).1])⟩
theorem Ow.appW {P : Program} {E : TI} {n : Nat} {ty : TypeId} {B H : AH} {L : List Th} {w u : Value} {vs ws : List Value} {ll : List (List Int)} {K : Value → AH → Prop} (h : Ow B H L) (k : Nat) (hk : L[k]? = some (.sl 1 ty w n vs)) (hv : Rw u ws ll H) (hz : E.size = 1) (hb : E.bytes ≤ 32768) (hn : n + ws.length ≤ 4294967296)
    (hK : ∀ v' H', H.next ≤ H'.next → Ow B H' (L.set k (.sl 1 ty v' (n + ws.length) (vs ++ ws))) → K v' H') : runOut P H (slCells H 1 u fun xs m => appE E ty w xs m H) K := by
  obtain ⟨hr, hu⟩ := hv
  have hws : ∀ x ∈ ws, x.oneCell' = true := fun x hx => by
    obtain ⟨j, hj, e⟩ := List.getElem_of_mem hx
    obtain ⟨y, hy, hrd⟩ := hr.2 j (by rw [← hr.1]; exact hj)
    rw [List.getElem?_eq_getElem hj] at hy
    cases hy
    rw [← e]; exact hrd.one
  have key : ws = [] → runOut P H (appE E ty w [] 0 H) K := fun e => by
    subst e
    unfold appE
    rw [if_pos rfl]
    obtain ⟨S, hS, hp⟩ := h.at hk
    have eL : L.set k (.sl 1 ty w (n + ([] : List Value).length) (vs ++ [])) = L := by
      rw [List.append_nil]
      apply List.ext_getElem?
      intro j
      rw [List.getElem?_set]
      have hkl := (List.getElem?_eq_some_iff.1 hk).1
      by_cases e : k = j
      · subst e; rw [if_pos rfl, if_pos hkl]; exact hk.symm
      · rw [if_neg e]
    have hK' := hK w H (Nat.le_refl _) (by rw [eL]; exact h)
    rcases hp.2 with ⟨_, rfl⟩ | ⟨i, h1, rfl, hr⟩
    · simp only [asSl_nil, runOut_val]; exact hK'
    · simp only [asSl_some, runOut_need, runOut_val]; exact ⟨(fun h => by cases h), hK'⟩
  refine Holds.mp ?_
  rcases hu with ⟨rfl, e2⟩ | ⟨i, o, s, c, r, rfl, h3, h4, h5⟩
  · unfold slCells
    simp only [asSl_nil, Holds]
    exact key e2
  · unfold slCells
    simp only [Holds]
    simp only [asSl_some, h3, bindO_some, runOut_need, Nat.mul_one, h5]
    refine ⟨⟨h4, .inr hws⟩, ?_⟩
    rcases Nat.eq_zero_or_pos ws.length with e | e
    · have e0 : ws = [] := List.eq_nil_of_length_eq_zero e
      have := key e0
      rw [e0]; exact this
    · exact h.app k hk hz (by omega) (by omega) e hb hn fun v' H' hn' o' => hK v' H' (by omega) o'
end Go.Abs
end

section
namespace Go.Abs
end Go.Abs
end

section
set_option maxRecDepth 100000
set_option maxHeartbeats 2000000
namespace Go.Proofs.YtpienljnoaendaaGreat.A
open Go Go.Abs Go.RowKit
end Go.Proofs.YtpienljnoaendaaGreat.A
end

section
namespace Go.Abs
def up1 (y : List Int) : List Int := y.map (· + 1)
end Go.Abs
end

section
set_option maxRecDepth 100000
set_option maxHeartbeats 2000000
namespace Go.Proofs.YtpienljnoaendaaGreat.A
open Go Go.Abs Go.RowKit
end Go.Proofs.YtpienljnoaendaaGreat.A
end

section
set_option maxRecDepth 100000
set_option maxHeartbeats 2000000
namespace Go.Proofs.YtpienljnoaendaaGreat.A
open Go Go.Abs Go.RowKit
end Go.Proofs.YtpienljnoaendaaGreat.A
end

section
namespace Go.Abs
end Go.Abs
end

section
set_option maxRecDepth 100000
set_option maxHeartbeats 2000000
namespace Go.Proofs.YtpienljnoaendaaGreat.A
open Go Go.Abs Go.RowKit
end Go.Proofs.YtpienljnoaendaaGreat.A
end

section
set_option maxRecDepth 100000
set_option maxHeartbeats 2000000
namespace Go.Proofs.YtpienljnoaendaaGreat.A
open Go Go.Abs Go.RowKit
def VL (n : Nat) (l : List Int) : Prop := ∀ x, x ∈ l → 0 ≤ x ∧ x < (n : Int)
theorem VL.getD {n : Nat} {l : List Int} (h : VL n l) {j : Nat} (hj : j < l.length) : 0 ≤ l.getD j 0 ∧ l.getD j 0 < (n : Int) := by
  rw [List.getD_eq_getElem?_getD, List.getElem?_eq_getElem hj]
  exact h _ (List.getElem_mem _)
theorem VL.set {n : Nat} {l : List Int} (h : VL n l) {x : Int} (hx : 0 ≤ x ∧ x < (n : Int)) (j : Nat) : VL n (l.set j x) := fun y hy => by
  rcases List.mem_or_eq_of_mem_set hy with h1 | h1
  · exact h y h1
  · rw [h1]; exact hx
theorem VL.app {n : Nat} {l m : List Int} (h : VL n l) (k : VL n m) : VL n (l ++ m) := fun y hy => by
  rcases List.mem_append.1 hy with h1 | h1
  · exact h y h1
  · exact k y h1
theorem VL.zeros {n : Nat} (h : 0 < n) (k : Nat) : VL n (List.replicate k 0) := fun y hy => by
  rw [List.eq_of_mem_replicate hy]; omega
theorem VL.nil (n : Nat) : VL n [] := fun y hy => by simp at hy
end Go.Proofs.YtpienljnoaendaaGreat.A
end

section
set_option maxRecDepth 100000
set_option maxHeartbeats 2000000
namespace Go.Proofs.YtpienljnoaendaaGreat.A
open Go Go.Abs Go.RowKit
structure Dq (cv : Value) (nb si : Nat) (H H' : AH) (L : List Th) : Prop where
  ex : ∃ B, SrcB cv nb si H B ∧ Ow B H' L
section
variable {cv : Value} {nb si : Nat} {H H' : AH} {L : List Th}
theorem Dq.start (h : Src cv nb si H) (sc : Sc H) : Dq cv nb si H H [] := ⟨⟨H, SrcB.refl h, Ow.refl sc⟩⟩
theorem Dq.src (h : Dq cv nb si H H' L) (hn : si < H.next) : Src cv nb si H' := by
  obtain ⟨B, b, o⟩ := h.ex; exact Ow.srcAt o b hn
theorem Dq.code (h : Dq cv nb si H H' L) (hx : CodeX cv nb si H) (sc : Sc H) : CodeX cv nb si H' := by
  obtain ⟨B, b, o⟩ := h.ex; exact hx.later fun i r hi hr => Ow.oldX o b sc i r hi hr
theorem Dq.sc (h : Dq cv nb si H H' L) : Sc H' := by obtain ⟨B, b, o⟩ := h.ex; exact o.sc
theorem Dq.le (h : Dq cv nb si H H' L) : H.next ≤ H'.next := by obtain ⟨B, b, o⟩ := h.ex; have := b.next; have := o.next; omega
theorem Dq.old (h : Dq cv nb si H H' L) (sc : Sc H) : ∀ i r, i ≠ si → H.row i = some r → H'.row i = some r := by
  obtain ⟨B, b, o⟩ := h.ex; exact Ow.oldX o b sc
theorem Dq.next (h : Dq cv nb si H H' L) (hn : si < H.next) {H2 : AH} (k : SrcB cv nb si H' H2) : Dq cv nb si H H2 L := by
  obtain ⟨B, b, o⟩ := h.ex
  obtain ⟨B2, b2, o2⟩ := Ow.src o (by rw [b.next]; exact hn) k
  exact ⟨B2, b.trans b2, o2⟩
theorem Dq.call (h : Dq cv nb si H H' L) (hn : si < H.next) {H2 H3 : AH} {M : List Th} (k : SrcB cv nb si H' H2) (o3 : Ow H2 H3 M) : Dq cv nb si H H3 (L ++ M) := by
  obtain ⟨B, b, o⟩ := h.ex
  obtain ⟨B2, b2, o2⟩ := Ow.srcCall o (by rw [b.next]; exact hn) k o3
  exact ⟨B2, b.trans b2, o2⟩
theorem Dq.bind (h : Dq cv nb si H H' L) (hn : si < H.next) {H3 : AH} {M : List Th} (k : Dq cv nb si H' H3 M) : Dq cv nb si H H3 (L ++ M) := by
  obtain ⟨B, b, o⟩ := k.ex
  exact h.call hn b o
theorem Dq.calls (h : Dq cv nb si H H' L) {H3 : AH} {M : List Th} (o3 : Ow H' H3 M) : Dq cv nb si H H3 (L ++ M) := by
  obtain ⟨B, b, o⟩ := h.ex
  exact ⟨B, b, o.call o3⟩
theorem Dq.map (h : Dq cv nb si H H' L) {H2 : AH} {M : List Th} (f : ∀ B, Ow B H' L → Ow B H2 M) : Dq cv nb si H H2 M := by
  obtain ⟨B, b, o⟩ := h.ex
  exact ⟨B, b, f B o⟩
theorem Dq.push (h : Dq cv nb si H H' L) (r : Row) : Dq cv nb si H (H'.push r) (L ++ [.row H'.next r]) := h.map fun B o => o.push r
theorem Dq.tmp (h : Dq cv nb si H H' L) (r : Row) : Dq cv nb si H (H'.push r) L := h.map fun B o => o.tmp r
theorem Dq.left {M : List Th} (h : Dq cv nb si H H' (L ++ M)) : Dq cv nb si H H' L := h.map fun B o => o.left
theorem Dq.putRow (h : Dq cv nb si H H' L) (k : Nat) {i : Nat} {ty : TypeId} {b : Bool} {cs cs' : List Value} (hk : L[k]? = some (.row i ⟨ty, b, cs⟩)) : Dq cv nb si H (H'.setCells i cs') (L.set k (.row i ⟨ty, b, cs'⟩)) := h.map fun B o => o.putRow k hk
theorem Dq.rowAt (h : Dq cv nb si H H' L) (k : Nat) {i : Nat} {r : Row} (hk : L[k]? = some (.row i r)) : H'.row i = some r := by
  obtain ⟨B, b, o⟩ := h.ex
  exact (o.rowAt k hk).1
theorem Dq.rd (h : Dq cv nb si H H' L) (k : Nat) {z n : Nat} {ty : TypeId} {v : Value} {l : List Int} (hk : L[k]? = some (.sl z ty v n (ints l))) : Rd z H' v n l := by
  obtain ⟨B, b, o⟩ := h.ex
  exact o.rd k hk
theorem Dq.rd2 (h : Dq cv nb si H H' L) (k : Nat) {ty ty' : TypeId} {v : Value} {ll : List (List Int)} (hk : L[k]? = some (.sl2 (Value.int .i64) ty ty' v ll)) : Rd2 1 H' v ll := by
  obtain ⟨B, b, o⟩ := h.ex
  exact o.rd2 k hk
theorem Dq.one (h : Dq cv nb si H H' L) (k : Nat) {z n : Nat} {ty : TypeId} {v : Value} {vs : List Value} (hk : L[k]? = some (.sl z ty v n vs)) : v.oneCell' = true := by
  obtain ⟨B, b, o⟩ := h.ex
  exact o.one k hk
theorem Dq.capOne (h : Dq cv nb si H H' L) (k : Nat) {z n : Nat} {ty : TypeId} {v : Value} {vs : List Value} (hk : L[k]? = some (.cap z ty v n vs)) : v.oneCell' = true := by
  obtain ⟨B, b, o⟩ := h.ex
  exact o.capOne k hk
theorem Dq.capRs (h : Dq cv nb si H H' L) (k : Nat) {z n : Nat} {ty : TypeId} {v : Value} {l : List Int} (hk : L[k]? = some (.cap z ty v n (ints l))) : Rs z H' v n l := by
  obtain ⟨B, b, o⟩ := h.ex
  exact o.capRs k hk
end
end Go.Proofs.YtpienljnoaendaaGreat.A
end

section
namespace Go.Abs
open Go Go.RowKit
structure LES (S : Nat → Prop) (H H' : AH) : Prop where
  next : H.next ≤ H'.next
  row : ∀ i r, S i → H.row i = some r → H'.row i = some r
theorem LES.refl (S : Nat → Prop) (H : AH) : LES S H H := ⟨Nat.le_refl _, fun _ _ _ h => h⟩
theorem LE.les {S : Nat → Prop} {H H' : AH} (h : LE H H') : LES S H H' := ⟨h.next, fun i r _ => h.row i r⟩
def loadOk (S : Nat → Prop) (t : T) : Op → Prop
  | .load _ a => match evo t a with | some (.pointer (some ⟨i, _, _⟩)) => S i | _ => True
  | _ => True
def Safe (P : Program) (S : Nat → Prop) (t : T) (op : Op) : Prop := ∀ H H' v, LES S H H' → yl (evalOp P t H op) v → yl (evalOp P t H' op) v
theorem safe_of {P : Program} {S : Nat → Prop} {t : T} {op : Op} (hq : quietOp op = true) (h : loadOk S t op) : Safe P S t op := by
  intro H H' v hle h
  by_cases hb : blindOp op = true
  · rw [blind_setH P t H H' op hb]; exact yl_setH _ h
  · cases op with
    | load ty a =>
      rename_i hS
      simp only [evalOp] at h ⊢
      cases hI : ti P ty with
      | none => simp only [hI] at h; exact h.elim
      | some I =>
        simp only [hI, bindO_some] at h ⊢
        cases hv : evo t a with
        | none => simp only [hv] at h; exact h.elim
        | some u =>
          simp only [hv, bindO_some] at h ⊢
          unfold asP at h ⊢
          split at h
          · rename_i i o
            unfold loadOk at hS
            simp only [hv] at hS
            cases hr : H.row i with
            | none => simp only [hr] at h; exact h.elim
            | some r =>
              have hr2 := hle.row i r hS hr
              simp only [hr, hr2, bindO_some] at h ⊢
              split at h
              · rename_i hd; rw [if_pos hd]; exact h
              · rename_i hd
                rw [if_neg hd]
                cases hx : r.cells[o]? with
                | none => simp only [hx] at h; exact h.elim
                | some x => simp only [hx, bindO_some] at h ⊢; exact h
          · exact h.elim
    | _ => simp_all [quietOp, blindOp]
theorem Safe.upd {P : Program} {S : Nat → Prop} {ops : Array Oper} {o : Oper} {t : T} {u : Value} {d : Option Nat} (h : ∀ i, d = some i → i ∉ o.looksAt ops) (k : Safe P S t o.op) : Safe P S (updO t d u) o.op := by
  intro H H' v hle
  rw [evalOp_updO o h, evalOp_updO o h]
  exact k H H' v hle
theorem aYield.safe {P : Program} {S : Nat → Prop} {ops : Array Oper} {o : Oper} {t : T} {H H' : AH} {v : Value} (hs : Safe P S t o.op) (hle : LES S H H') (h : aYield P ops o t H v) : aYield P ops o t H' v := by
  unfold aYield at *
  split at h
  · rename_i hg; exact hs _ _ _ hle h
  · rename_i g hg; exact condW_mono h (hs _ _ _ hle) id
def AAnyS (P : Program) (ops : Array Oper) (S : Nat → Prop) (Q : T → AH → Prop) : Nat → Array Bool → T → AH → Prop
  | 0, listed, t, H => Region.ready .any ops listed = [] ∧ Q t H
  | f + 1, listed, t, H => (Region.ready .any ops listed = [] → Q t H) ∧
    ∀ i ∈ Region.ready .any ops listed, aStep P ops.toList i t H fun t' H' => (sinkB ops i = true ∨ LES S H H') ∧ AAnyS P ops S Q f (listed.setIfInBounds i true) t' H'
theorem AAnyS_first {P : Program} {ops : Array Oper} {S : Nat → Prop} {Q : T → AH → Prop} {q : Nat} {oq : Oper} {v : Value} (hoq : ops[q]? = some oq) (hqt : quietOp oq.op = true) :
    ∀ (f : Nat) (listed : Array Bool) (t : T) (H : AH), Closed ops listed →
      (∀ j oj, ops[j]? = some oj → j ≠ q → listed.getD j true = false → (∀ e ∈ oj.after, Region.binds .any e = true → e.on ≠ q) → oq.apart ops oj = true) →
      q ∈ Region.ready .any ops listed → Safe P S t oq.op → aYield P ops oq t H v → AAnyS P ops S Q f (listed.setIfInBounds q true) (updO t oq.dst v) H → AAnyS P ops S Q (f + 1) listed t H := by
  intro f
  induction f with
  | zero =>
    intro listed t H hc _ hr hsf hy hA
    refine ⟨fun h => (by rw [h] at hr; cases hr), fun j hj => ?_⟩
    by_cases hjq : j = q
    · subst hjq; exact hy.step hoq hqt ⟨.inr (LES.refl _ _), hA⟩
    · have := ready_mono hj hjq
      rw [hA.1] at this
      cases this
  | succ f ih =>
    intro listed t H hc hfree hr hsf hy hA
    refine ⟨fun h => (by rw [h] at hr; cases hr), fun j hj => ?_⟩
    by_cases hjq : j = q
    · subst hjq; exact hy.step hoq hqt ⟨.inr (LES.refl _ _), hA⟩
    · have h1 := hA.2 j (ready_mono hj hjq)
      obtain ⟨hjun, oj, hoj, hall⟩ := ready_iff.1 hj
      obtain ⟨hqun, oq', hoq', hallq⟩ := ready_iff.1 hr
      have : oq' = oq := Option.some.inj (hoq'.symm.trans hoq)
      subst this
      have hqf : listed.getD q false = false := getD_unlisted hqun
      have hjf : listed.getD j false = false := getD_unlisted hjun
      have hnot : ∀ e ∈ oj.after, Region.binds .any e = true → e.on ≠ q := fun e he hb heq => by
        have h1 := hall e he hb
        rw [heq, hqf] at h1; cases h1
      have hap := hfree j oj hoj hjq hjun hnot
      obtain ⟨_, _, h3⟩ := Oper.apart_spec hap
      have h2 := aStep_put hoj hap h1
      refine aStep_mono h2 fun t' H' hk => ?_
      obtain ⟨⟨u, rfl⟩, hs, hk⟩ := hk
      refine ⟨hs, ih (listed.setIfInBounds j true) _ H' (hc.set hj) ?_ (ready_mono hr (Ne.symm hjq)) (hsf.upd h3) ?_ ?_⟩
      · intro k ok hk2 hkq hun hno
        refine hfree k ok hk2 hkq ?_ hno
        by_cases hjk : j = k
        · subst hjk; exact hjun
        · rw [getD_set_ne true hjk] at hun; exact hun
      · by_cases hb : blindOp oq'.op = true
        · exact (hy.later (H' := H') hqt (.inl hb)).upd h3
        · refine (hy.safe (H' := H') hsf ?_).upd h3
          rcases hs with hs | hs
          · rcases sinkB_spec hs hoq (Ne.symm hjq) hqt (by simpa using hb) with hbf | hbf
            · have := hc.bef ops.size j oj hoj hall hbf
              rw [hqf] at this; cases this
            · have := hc.bef ops.size q oq' hoq hallq hbf
              rw [hjf] at this; cases this
          · exact hs
      · rw [Array.setIfInBounds_comm _ _ hjq]
        exact hk
def awpOrdS (P : Program) (ops : Array Oper) (S : Nat → Prop) (Q : T → AH → Prop) : List Nat → T → AH → Prop
  | [], t, H => Q t H
  | i :: is, t, H =>
    match ops.toList[i]? with
    | none => False
    | some o =>
      if quietOp o.op = true then Safe P S t o.op ∧ aStep P ops.toList i t H (awpOrdS P ops S Q is)
      else aStep P ops.toList i t H fun t' H' => (sinkB ops i = true ∨ LES S H H') ∧ awpOrdS P ops S Q is t' H'
theorem AAnyS_ord {P : Program} {ops : Array Oper} {S : Nat → Prop} {Q : T → AH → Prop} : ∀ (is : List Nat) (listed : Array Bool) (t : T) (H : AH) (f : Nat), is.length ≤ f → Closed ops listed → okOrd ops is listed = true → awpOrdS P ops S Q is t H → AAnyS P ops S Q f listed t H
  | [], listed, t, H, f, _, _, hok, h => by
    have hr : Region.ready .any ops listed = [] := by simpa [okOrd] using hok
    cases f with
    | zero => exact ⟨hr, h⟩
    | succ f => exact ⟨fun _ => h, by rw [hr]; simp⟩
  | i :: is, listed, t, H, 0, hl, _, _, _ => by simp at hl
  | i :: is, listed, t, H, f + 1, hl, hc, hok, h => by
    simp only [okOrd, Bool.and_eq_true] at hok
    obtain ⟨h1, h2⟩ := hok
    unfold awpOrdS at h
    cases ho : ops[i]? with
    | none => simp [ho] at h1
    | some o =>
      have e : ops.toList[i]? = some o := by simpa using ho
      simp only [ho] at h1
      rw [e] at h
      simp only at h
      split at h1
      · rename_i hq
        rw [if_pos hq] at h
        simp only [Bool.and_eq_true] at h1
        obtain ⟨hr, hfr⟩ := h1
        have hr' : i ∈ Region.ready .any ops listed := by simpa using hr
        obtain ⟨v, hy, hk⟩ := aStep_quiet ho hq h.2
        exact AAnyS_first ho hq f listed t H hc (Region.free_spec ho hfr) hr' h.1 hy (AAnyS_ord is _ _ H f (by simp at hl; omega) (hc.set hr') h2 hk)
      · rename_i hq
        rw [if_neg hq] at h
        have hr : Region.ready .any ops listed = [i] := by simpa using h1
        refine ⟨fun h0 => (by rw [hr] at h0; cases h0), fun j hj => ?_⟩
        have hji : j = i := by rw [hr] at hj; simpa using hj
        subst hji
        exact aStep_mono h fun t' H' hk => ⟨hk.1, AAnyS_ord is _ t' H' f (by simp at hl; omega) (hc.set hj) h2 hk.2⟩
theorem AAnyS_ok {P : Program} {ops : Array Oper} {S : Nat → Prop} {Q : T → AH → Prop} {QC : Exit → Act → World → Prop} {base : Nat} :
    ∀ (f : Nat) (listed : Array Bool) (t : T) (H : AH) (ρ : Nat → Nat) (w : World) (tmps : Array Value), AAnyS P ops S Q f listed t H → St base ρ t H tmps w → (∀ o ∈ ops.toList, ∀ i, o.dst = some i → i < tmps.size) →
      (∀ t' H' ρ' w' tmps', Q t' H' → St base ρ' t' H' tmps' w' → Ext base ρ H.next w ρ' H'.next w' → tmps'.size = tmps.size → QC .normal ⟨tmps', []⟩ w') →
      wpAny P .any ops QC f listed ⟨tmps, []⟩ w
  | 0, listed, t, H, ρ, w, tmps, h, hS, _, hQ => ⟨h.1, hQ t H ρ w tmps h.2 hS (Ext.refl _ _ _ _) rfl⟩
  | f + 1, listed, t, H, ρ, w, tmps, h, hS, hd, hQ => by
    refine ⟨fun h0 => hQ t H ρ w tmps (h.1 h0) hS (Ext.refl _ _ _ _) rfl, fun i hi => ?_⟩
    have hstep := h.2 i hi
    obtain ⟨_, o, ho, _⟩ := ready_iff.1 hi
    have e : ops.toList[i]? = some o := by simpa using ho
    have hom : o ∈ ops.toList := List.mem_of_getElem? e
    unfold aStep at hstep
    rw [e] at hstep
    simp only at hstep
    have hgo : ∀ v v' H' ρ' w', AAnyS P ops S Q f (listed.setIfInBounds i true) (updO t o.dst v) H' → Rel base ρ' H' w' → Ext base ρ H.next w ρ' H'.next w' → VR ρ' H'.next w' v v' →
        wpAny P .any ops QC f (listed.setIfInBounds i true) (Act.put ⟨tmps, []⟩ o.dst v') w' := by
      intro v v' H' ρ' w' hK R' E hV
      rw [put_eta]
      refine AAnyS_ok f _ _ H' ρ' w' _ hK ⟨R', (hS.2.ext E).put hV o.dst (hd o hom)⟩ (fun o' ho' k hk => by rw [put_size]; exact hd o' ho' k hk) ?_
      intro t' H'' ρ'' w'' tmps' hq hs he hz
      exact hQ t' H'' ρ'' w'' tmps' hq hs (E.trans he) (by rw [hz, put_size])
    have hall := wp_one (P := P) (QC := QC) ops i o ho hS (hnext := fun a w' => wpAny P .any ops QC f (listed.setIfInBounds i true) a w') hgo
      (K := fun v H' => AAnyS P ops S Q f (listed.setIfInBounds i true) (updO t o.dst v) H')
    refine hall ?_
    cases hg : o.guard with
    | none =>
      simp only [hg] at hstep ⊢
      exact runOut_mono (fun v H' hk => hk.2) _ hstep
    | some g =>
      simp only [hg] at hstep ⊢
      exact condW_mono hstep (runOut_mono (fun v H' hk => hk.2) _) (fun hk => hk.2)
theorem draw_okS {P : Program} {id : Nat} {ops : Array Oper} {Q : Exit → T → AH → Prop} {t : T} {H : AH} (S : Nat → Prop) (is : List Nat) (hm : P.follows .mixedOrders = true) (hok : okOrd ops is (Array.replicate ops.size false) = true) (hl : is.length = ops.size)
    (h : awpOrdS P ops S (Q .normal) is t H) : awp P (.region id ops true) Q t H := by
  intro base ρ w tmps QC hS hd hQ
  have hA := AAnyS_ord is _ t H ops.size (by omega) ⟨by simp, fun j oj hj hl => by rw [getD_replicate_false'] at hl; cases hl⟩ hok h
  refine wp_region_any hm (AAnyS_ok ops.size _ t H ρ w.drew tmps hA ⟨hS.1.drew, hS.2.ext (ext_drew (base := base) (H := H) w)⟩ ?_ fun t' H' ρ' w' tmps' hq hs he hz => ?_)
  · intro o ho i hi
    have := List.all_eq_true.1 hd o ho
    simp only [hi, decide_eq_true_eq] at this
    exact this
  · exact hQ .normal t' H' ρ' w' tmps' hq hs ((ext_drew (base := base) (H := H) (ρ := ρ) w).trans he) hz
def stepIS (P : Program) (ops : Array Oper) (S : Nat → Prop) (K : T → AH → Prop) (i : Nat) : Option Oper → T → AH → (fun _ => Prop) (ops, K, i)
  | none, _, _ => False
  | some o, t, H =>
    match o.guard with
    | none => loadOk S t o.op ∧ runOut P H (evalOp P t H o.op) fun v H' => (quietOp o.op = true ∨ sinkB ops i = true ∨ LES S H H') ∧ K (updO t o.dst v) H'
    | some g => loadOk S t o.op ∧ condW (gv ops.toList t g.1) g.2 (runOut P H (evalOp P t H o.op) fun v H' => (quietOp o.op = true ∨ sinkB ops i = true ∨ LES S H H') ∧ K (updO t o.dst v) H') (K (updO t o.dst undef) H)
def awpIS (P : Program) (ops : Array Oper) (S : Nat → Prop) (Q : T → AH → Prop) : (is : List Nat) → T → AH → (fun _ => Prop) (ops, Q, is)
  | [], t, H => Q t H
  | i :: is, t, H => stepIS P ops S (awpIS P ops S Q is) i (ops.toList[i]?) t H
theorem awpIS_ord {P : Program} {ops : Array Oper} {S : Nat → Prop} {Q : T → AH → Prop} : ∀ (is : List Nat) (t : T) (H : AH), awpIS P ops S Q is t H → awpOrdS P ops S Q is t H
  | [], t, H, h => h
  | i :: is, t, H, h => by
    have ih := fun t H => awpIS_ord (P := P) (ops := ops) (S := S) (Q := Q) is t H
    unfold awpIS at h
    unfold awpOrdS
    cases e : ops.toList[i]? with
    | none => rw [e] at h; exact h.elim
    | some o =>
    rw [e] at h
    unfold stepIS at h
    have hs : ∀ K K' : T → AH → Prop, (∀ v H', K (updO t o.dst v) H' → K' (updO t o.dst v) H') → (∀ H', K (updO t o.dst undef) H' → K' (updO t o.dst undef) H') → aStep P ops.toList i t H K → aStep P ops.toList i t H K' := by
      intro K K' k1 k2 hh
      unfold aStep at hh ⊢
      rw [e] at hh ⊢
      simp only at hh ⊢
      cases hg : o.guard with
      | none => simp only [hg] at hh ⊢; exact runOut_mono (fun v H' => k1 v H') _ hh
      | some g => simp only [hg] at hh ⊢; exact condW_mono hh (runOut_mono (fun v H' => k1 v H') _) (k2 H)
    have hload : loadOk S t o.op := by
      cases hg : o.guard <;> simp only [hg] at h <;> exact h.1
    have base : aStep P ops.toList i t H fun t' H' => (quietOp o.op = true ∨ sinkB ops i = true ∨ LES S H H') ∧ awpOrdS P ops S Q is t' H' := by
      unfold aStep
      rw [e]
      simp only
      cases hg : o.guard with
      | none => simp only [hg] at h ⊢; exact runOut_mono (fun v H' k => ⟨k.1, ih _ _ k.2⟩) _ h.2
      | some g => simp only [hg] at h ⊢; exact condW_mono h.2 (runOut_mono (fun v H' k => ⟨k.1, ih _ _ k.2⟩) _) (fun k => ⟨.inr (.inr (LES.refl S H)), ih _ _ k⟩)
    simp only
    split
    · rename_i hqq
      exact ⟨safe_of hqq hload, hs _ _ (fun v H' k => k.2) (fun H' k => k.2) base⟩
    · rename_i hq
      refine hs _ _ ?_ ?_ base
      · rintro v H' ⟨k | k, k2⟩
        · exact absurd k hq
        · exact ⟨k, k2⟩
      · rintro H' ⟨k | k, k2⟩
        · exact absurd k hq
        · exact ⟨k, k2⟩
theorem draw_inS {P : Program} {id : Nat} {ops : Array Oper} {Q : Exit → T → AH → Prop} {t : T} {H : AH} (S : Nat → Prop) (is : List Nat) (hm : P.follows .mixedOrders = true) (hok : okOrd ops is (Array.replicate ops.size false) = true) (hl : is.length = ops.size)
    (h : awpIS P ops S (Q .normal) is t H) : awp P (.region id ops true) Q t H := draw_okS S is hm hok hl (awpIS_ord is _ _ h)
theorem awpIS_nil (P : Program) (ops : Array Oper) (S : Nat → Prop) (Q : T → AH → Prop) (t : T) (H : AH) : awpIS P ops S Q [] t H = Q t H := (rfl)
theorem awpIS_cons (P : Program) (ops : Array Oper) (S : Nat → Prop) (Q : T → AH → Prop) (i : Nat) (is : List Nat) (t : T) (H : AH) : awpIS P ops S Q (i :: is) t H = stepIS P ops S (awpIS P ops S Q is) i (ops.toList[i]?) t H := (rfl)
theorem stepIS_op (P : Program) (ops : Array Oper) (S : Nat → Prop) (K : T → AH → Prop) (i : Nat) (d : Option Tmp) (op : Op) (ty : TypeId) (pos : String) (af : Array Edge) (t : T) (H : AH) :
    stepIS P ops S K i (some ⟨d, op, ty, pos, af, none⟩) t H = (loadOk S t op ∧ runOut P H (evalOp P t H op) fun v H' => (quietOp op = true ∨ sinkB ops i = true ∨ LES S H H') ∧ K (updO t d v) H') := (rfl)
@[congr] theorem stepIS_congr {P : Program} {ops : Array Oper} {S : Nat → Prop} {K : T → AH → Prop} {i : Nat} {o o' : Option Oper} {t t' : T} {H H' : AH} (ho : o = o') (h : t = t') (k : H = H') : stepIS P ops S K i o t H = stepIS P ops S K i o' t' H' := by rw [ho, h, k]
@[congr] theorem awpIS_congr {P : Program} {ops : Array Oper} {S : Nat → Prop} {is : List Nat} {Q : T → AH → Prop} {t t' : T} {H H' : AH} (h : t = t') (k : H = H') : awpIS P ops S Q is t H = awpIS P ops S Q is t' H' := by rw [h, k]
end Go.Abs
end

section
set_option maxRecDepth 100000
set_option maxHeartbeats 2000000
namespace Go.Proofs.YtpienljnoaendaaGreat.A
open Go Go.Abs Go.RowKit
theorem pickD {cv : Value} {nb si k m : Nat} {H Hp : AH} {L : List Th} {ty : TypeId} {lv : Value} {ls : List Int} (d : Dq cv nb si H Hp L) (hsi : si < H.next) (hc : CodeX cv nb si H) (hsc : Sc H) (hnb : nb ≤ 4611686018427387904) (hk : L[k]? = some (.sl 1 ty lv m (ints ls))) (hm : 0 < m ∧ m ≤ 100) :
    ACalls Tryz.prog 98 [.pointer (some ⟨si, 0, none⟩), lv] Hp (fun v H' => ∃ x : Int, v = .int .i64 x ∧ x ∈ ls ∧ SrcB cv nb si Hp H') :=
  l01Pick_c cv nb si lv m ls Hp hm.1 (by omega) hnb (d.src hsi) (d.code hc hsc) fun H' hS => (d.next hsi hS).rd k hk
theorem nextD {cv : Value} {nb si : Nat} {H Hp : AH} {L : List Th} (n : Int) (d : Dq cv nb si H Hp L) (hsi : si < H.next) (hc : CodeX cv nb si H) (hsc : Sc H) (hnb : nb ≤ 4611686018427387904) (hn : n ≤ 9223372036854775807) :
    ACalls Tryz.prog 99 [.pointer (some ⟨si, 0, none⟩), .int .i64 n] Hp (fun v H' => ∃ x : Nat, v = .int .i64 x ∧ ((n < 1 ∧ x = 0) ∨ (x : Int) < n) ∧ Dq cv nb si H H' L) := by
  refine (l01Next_c cv nb si n Hp hn hnb (d.src hsi) (d.code hc hsc)).mono ?_
  rintro v H' ⟨x, hv, hx, hS⟩
  exact ⟨x, hv, hx, d.next hsi hS⟩
theorem ACalls.ex4 {P : Program} {f : FuncId} {args : List Value} {H : AH} {α β γ δ : Type} {g : α → β → γ → δ → Value} {X : α → β → γ → δ → AH → Prop} {R : Value → AH → Prop} (h : ACalls P f args H (fun v H' => ∃ a b c d, v = g a b c d ∧ X a b c d H')) (k : ∀ a b c d H', X a b c d H' → R (g a b c d) H') : ACalls P f args H R :=
  h.mono fun v H' hh => by obtain ⟨a, b, c, d, rfl, hx⟩ := hh; exact k _ _ _ _ _ hx
theorem Dq.les {cv : Value} {nb si : Nat} {H H' : AH} {L : List Th} (h : Dq cv nb si H H' L) (sc : Sc H) : LES (fun j => j ≠ si) H H' := ⟨h.le, fun i r hi hr => h.old sc i r hi hr⟩
theorem les_of {cv : Value} {nb si : Nat} {H B H' : AH} {M : List Th} (k : SrcB cv nb si H B) (o : Ow B H' M) (sc : Sc H) : LES (fun j => j ≠ si) H H' := Dq.les (⟨⟨B, k, o⟩⟩ : Dq cv nb si H H' M) sc
theorem ACalls.scz {P : Program} {f : FuncId} {args : List Value} {H : AH} {α : Type} {g : α → Value} {X : α → AH → Prop} (h : ACalls P f args H (fun v H' => ∃ u, v = g u ∧ X u H')) : ACalls P f args H (fun v H' => ∃ u, v = g u ∧ X u H' ∧ Sc H') :=
  h.sc.mono fun _ _ ⟨⟨u, h1, h2⟩, h3⟩ => ⟨u, h1, h2, h3⟩
theorem pickL {cv : Value} {nb si : Nat} {H Hp : AH} {L : List Th} (ls : List Int) (m : Nat) (hm : ls.length = m) (hm0 : 0 < m) (hm1 : m ≤ 100) (d : Dq cv nb si H Hp L) (hsi : si < H.next) (hc : CodeX cv nb si H) (hsc : Sc H) (hnb : nb ≤ 4611686018427387904) :
    ACalls Tryz.prog 98 [.pointer (some ⟨si, 0, none⟩), .slice (some ⟨Hp.next, 0, some 1⟩) m m] (Hp.push ⟨2, true, ints ls⟩) (fun v H' => ∃ x : Int, v = .int .i64 x ∧ x ∈ ls ∧ Dq cv nb si H H' L) := by
  have d6 : Dq cv nb si H (Hp.push ⟨2, true, ints ls⟩) L := d.tmp _
  have d7 : Dq cv nb si H (Hp.push ⟨2, true, ints ls⟩) (L ++ [.sl 1 2 (.slice (some ⟨Hp.next, 0, some 1⟩) m m) m (ints ls)]) := d.map fun B o => o.pushSl (by rw [ints_length, hm, Nat.mul_one])
  refine (pickD (k := L.length) (ty := 2) (ls := ls) d7 hsi hc hsc hnb (by simp) ⟨hm0, hm1⟩).mono ?_
  rintro v H' ⟨x, h1, h2, h3⟩
  exact ⟨x, h1, h2, d6.next hsi h3⟩
end Go.Proofs.YtpienljnoaendaaGreat.A
end

section
namespace Go.Abs
open Go Go.RowKit
def awpTS (P : Program) (ops : Array Oper) (S : Nat → Prop) (Q : T → AH → Prop) : (ot : OT) → T → AH → (fun _ => Prop) (ops, Q, ot)
  | .nil, t, H => Q t H
  | .one i r, t, H => stepIS P ops S (awpTS P ops S Q r) i (ops.toList[i]?) t H
  | .two i j a b, t, H => stepIS P ops S (awpTS P ops S Q a) i (ops.toList[i]?) t H ∧ stepIS P ops S (awpTS P ops S Q b) j (ops.toList[j]?) t H
  | .three i j k a b c, t, H => stepIS P ops S (awpTS P ops S Q a) i (ops.toList[i]?) t H ∧ stepIS P ops S (awpTS P ops S Q b) j (ops.toList[j]?) t H ∧ stepIS P ops S (awpTS P ops S Q c) k (ops.toList[k]?) t H
theorem stepIS_a {P : Program} {ops : Array Oper} {S : Nat → Prop} {K : T → AH → Prop} {i : Nat} {t : T} {H : AH} (h : stepIS P ops S K i (ops.toList[i]?) t H) :
    (∃ o, ops.toList[i]? = some o ∧ loadOk S t o.op) ∧ aStep P ops.toList i t H fun t' H' => ((∃ o, ops.toList[i]? = some o ∧ quietOp o.op = true) ∨ sinkB ops i = true ∨ LES S H H') ∧ K t' H' := by
  unfold aStep
  cases e : ops.toList[i]? with
  | none => rw [e] at h; exact h.elim
  | some o =>
    rw [e] at h
    unfold stepIS at h
    simp only
    cases hg : o.guard with
    | none => simp only [hg] at h ⊢; exact ⟨⟨o, rfl, h.1⟩, runOut_mono (fun v H' k => ⟨k.1.imp (fun q => ⟨o, rfl, q⟩) id, k.2⟩) _ h.2⟩
    | some g => simp only [hg] at h ⊢; exact ⟨⟨o, rfl, h.1⟩, condW_mono h.2 (runOut_mono (fun v H' k => ⟨k.1.imp (fun q => ⟨o, rfl, q⟩) id, k.2⟩) _) (fun k => ⟨.inr (.inr (LES.refl S H)), k⟩)⟩
theorem stepIS_s {P : Program} {ops : Array Oper} {S : Nat → Prop} {K : T → AH → Prop} {i : Nat} {t : T} {H : AH} (h : stepIS P ops S K i (ops.toList[i]?) t H) :
    aStep P ops.toList i t H fun t' H' => (sinkB ops i = true ∨ LES S H H') ∧ K t' H' := by
  cases e : ops.toList[i]? with
  | none => rw [e] at h; exact h.elim
  | some o =>
    by_cases hq : quietOp o.op = true
    · have ho : ops[i]? = some o := by simpa using e
      obtain ⟨v, hy, hk⟩ := aStep_quiet ho hq (stepIS_a h).2
      exact hy.step ho hq ⟨.inr (LES.refl _ _), hk.2⟩
    · refine aStep_mono (stepIS_a h).2 fun t' H' hk => ⟨?_, hk.2⟩
      rcases hk.1 with ⟨o', e', q'⟩ | k
      · rw [e] at e'; cases e'; exact absurd q' hq
      · exact k
theorem AAnyS_tree {P : Program} {ops : Array Oper} {S : Nat → Prop} {Q : T → AH → Prop} : ∀ (ot : OT) (listed : Array Bool) (t : T) (H : AH) (f : Nat), ot.depth ≤ f → Closed ops listed → okOT ops ot listed = true → awpTS P ops S Q ot t H → AAnyS P ops S Q f listed t H
  | .nil, listed, t, H, f, _, _, hok, h => by
    have hr : Region.ready .any ops listed = [] := by simpa [okOT] using hok
    cases f with
    | zero => exact ⟨hr, h⟩
    | succ f => exact ⟨fun _ => h, by rw [hr]; simp⟩
  | .one i r, listed, t, H, 0, hl, _, _, _ => by simp [OT.depth] at hl
  | .two i j a b, listed, t, H, 0, hl, _, _, _ => by simp [OT.depth] at hl
  | .three i j k a b c, listed, t, H, 0, hl, _, _, _ => by simp [OT.depth] at hl
  | .one i r, listed, t, H, f + 1, hl, hc, hok, h => by
    simp only [okOT, Bool.and_eq_true] at hok
    simp only [OT.depth] at hl
    obtain ⟨h1, h2⟩ := hok
    unfold awpTS at h
    cases ho : ops[i]? with
    | none => simp [ho] at h1
    | some o =>
      simp only [ho] at h1
      split at h1
      · rename_i hq
        simp only [Bool.and_eq_true] at h1
        obtain ⟨hr, hfr⟩ := h1
        have hr' : i ∈ Region.ready .any ops listed := by simpa using hr
        obtain ⟨v, hy, hk⟩ := aStep_quiet ho hq (stepIS_s h)
        obtain ⟨⟨o', e', hl'⟩, _⟩ := stepIS_a h
        have eo : o' = o := by
          have e2 : ops.toList[i]? = some o := by simpa using ho
          exact Option.some.inj (e'.symm.trans e2)
        subst eo
        exact AAnyS_first ho hq f listed t H hc (Region.free_spec ho hfr) hr' (safe_of hq hl') hy (AAnyS_tree r _ _ H f (by omega) (hc.set hr') h2 hk.2)
      · have hr : Region.ready .any ops listed = [i] := by simpa using h1
        refine ⟨fun h0 => (by rw [hr] at h0; cases h0), fun j hj => ?_⟩
        have hji : j = i := by rw [hr] at hj; simpa using hj
        subst hji
        exact aStep_mono (stepIS_s h) fun t' H' hk => ⟨hk.1, AAnyS_tree r _ t' H' f (by omega) (hc.set hj) h2 hk.2⟩
  | .two i j a b, listed, t, H, f + 1, hl, hc, hok, h => by
    simp only [okOT, Bool.and_eq_true] at hok
    simp only [OT.depth] at hl
    obtain ⟨⟨h1, h2⟩, h3⟩ := hok
    unfold awpTS at h
    have hr : Region.ready .any ops listed = [i, j] := by simpa using h1
    refine ⟨fun h0 => (by rw [hr] at h0; cases h0), fun x hx => ?_⟩
    have hx2 : x = i ∨ x = j := by rw [hr] at hx; simpa using hx
    rcases hx2 with rfl | rfl
    · exact aStep_mono (stepIS_s h.1) fun t' H' hk => ⟨hk.1, AAnyS_tree a _ t' H' f (by omega) (hc.set hx) h2 hk.2⟩
    · exact aStep_mono (stepIS_s h.2) fun t' H' hk => ⟨hk.1, AAnyS_tree b _ t' H' f (by omega) (hc.set hx) h3 hk.2⟩
  | .three i j k a b c, listed, t, H, f + 1, hl, hc, hok, h => by
    simp only [okOT, Bool.and_eq_true] at hok
    simp only [OT.depth] at hl
    obtain ⟨⟨⟨h1, h2⟩, h3⟩, h4⟩ := hok
    unfold awpTS at h
    have hr : Region.ready .any ops listed = [i, j, k] := by simpa using h1
    refine ⟨fun h0 => (by rw [hr] at h0; cases h0), fun x hx => ?_⟩
    have hx2 : x = i ∨ x = j ∨ x = k := by rw [hr] at hx; simpa using hx
    rcases hx2 with rfl | rfl | rfl
    · exact aStep_mono (stepIS_s h.1) fun t' H' hk => ⟨hk.1, AAnyS_tree a _ t' H' f (by omega) (hc.set hx) h2 hk.2⟩
    · exact aStep_mono (stepIS_s h.2.1) fun t' H' hk => ⟨hk.1, AAnyS_tree b _ t' H' f (by omega) (hc.set hx) h3 hk.2⟩
    · exact aStep_mono (stepIS_s h.2.2) fun t' H' hk => ⟨hk.1, AAnyS_tree c _ t' H' f (by omega) (hc.set hx) h4 hk.2⟩
theorem draw_treeS {P : Program} {id : Nat} {ops : Array Oper} {Q : Exit → T → AH → Prop} {t : T} {H : AH} (S : Nat → Prop) (ot : OT) (hm : P.follows .mixedOrders = true) (hok : okOT ops ot (Array.replicate ops.size false) = true) (hl : ot.depth ≤ ops.size)
    (h : awpTS P ops S (Q .normal) ot t H) : awp P (.region id ops true) Q t H := by
  intro base ρ w tmps QC hS hd hQ
  have hA := AAnyS_tree ot _ t H ops.size hl ⟨by simp, fun j oj hj hl => by rw [getD_replicate_false'] at hl; cases hl⟩ hok h
  refine wp_region_any hm (AAnyS_ok ops.size _ t H ρ w.drew tmps hA ⟨hS.1.drew, hS.2.ext (ext_drew (base := base) (H := H) w)⟩ ?_ fun t' H' ρ' w' tmps' hq hs he hz => ?_)
  · intro o ho i hi
    have := List.all_eq_true.1 hd o ho
    simp only [hi, decide_eq_true_eq] at this
    exact this
  · exact hQ .normal t' H' ρ' w' tmps' hq hs ((ext_drew (base := base) (H := H) (ρ := ρ) w).trans he) hz
theorem awpTS_nil (P : Program) (ops : Array Oper) (S : Nat → Prop) (Q : T → AH → Prop) (t : T) (H : AH) : awpTS P ops S Q .nil t H = Q t H := (rfl)
theorem awpTS_one (P : Program) (ops : Array Oper) (S : Nat → Prop) (Q : T → AH → Prop) (i : Nat) (r : OT) (t : T) (H : AH) : awpTS P ops S Q (.one i r) t H = stepIS P ops S (awpTS P ops S Q r) i (ops.toList[i]?) t H := (rfl)
theorem awpTS_two {P : Program} {ops : Array Oper} {S : Nat → Prop} {Q : T → AH → Prop} {i j : Nat} {a b : OT} {t : T} {H : AH} (h : stepIS P ops S (awpTS P ops S Q a) i (ops.toList[i]?) t H) (k : stepIS P ops S (awpTS P ops S Q b) j (ops.toList[j]?) t H) : awpTS P ops S Q (.two i j a b) t H := ⟨h, k⟩
theorem awpTS_run_nil (P : Program) (ops : Array Oper) (S : Nat → Prop) (Q : T → AH → Prop) (r : OT) (t : T) (H : AH) : awpTS P ops S Q (OT.run [] r) t H = awpTS P ops S Q r t H := (rfl)
theorem awpTS_run_cons (P : Program) (ops : Array Oper) (S : Nat → Prop) (Q : T → AH → Prop) (i : Nat) (is : List Nat) (r : OT) (t : T) (H : AH) : awpTS P ops S Q (OT.run (i :: is) r) t H = stepIS P ops S (awpTS P ops S Q (OT.run is r)) i (ops.toList[i]?) t H := (rfl)
@[congr] theorem awpTS_congr {P : Program} {ops : Array Oper} {S : Nat → Prop} {ot : OT} {Q : T → AH → Prop} {t t' : T} {H H' : AH} (h : t = t') (k : H = H') : awpTS P ops S Q ot t H = awpTS P ops S Q ot t' H' := by rw [h, k]
end Go.Abs
end

section
set_option maxRecDepth 100000
set_option maxHeartbeats 2000000
namespace Go.Proofs.YtpienljnoaendaaGreat.A
open Go Go.Abs Go.RowKit
theorem Dq.toCap {cv : Value} {nb si : Nat} {H H' : AH} {L : List Th} (h : Dq cv nb si H H' L) (k : Nat) {z n : Nat} {ty : TypeId} {v : Value} {vs : List Value} (hk : L[k]? = some (.sl z ty v n vs)) : Dq cv nb si H H' (L.set k (.cap z ty v n vs)) := h.map fun B o => o.toCap k hk
theorem Dq.cut {cv : Value} {nb si : Nat} {H H' : AH} {L : List Th} (h : Dq cv nb si H H' L) (k : Nat) {z n : Nat} {ty : TypeId} {v : Value} {l : List Int} (hk : L[k]? = some (.cap z ty v n (ints l))) {hi : Option Int} {b : Nat} (hb : hi.getD (n : Int) = (b : Int)) (hbn : b ≤ n) :
    ∃ w, (∀ (P : Program) (E : TI) (K : Value → AH → Prop) (H2 : AH), E.size = z → K w H2 → runOut P H2 (sliceE E v none hi none H2) K) ∧ Dq cv nb si H H' (L.set k (.cap z ty w b (ints (l.take (b * z))))) := by
  obtain ⟨B, b1, o⟩ := h.ex
  obtain ⟨w, h1, h2⟩ := o.cut k hk hb hbn
  exact ⟨w, h1, ⟨⟨B, b1, h2⟩⟩⟩
theorem SrcB.les {cv : Value} {nb si : Nat} {H H' : AH} (k : SrcB cv nb si H H') : LES (fun j => j ≠ si) H H' := ⟨Nat.le_of_eq k.next.symm, fun i r hi hr => by rw [k.row i hi]; exact hr⟩
theorem nextE {cv : Value} {nb si : Nat} {H Hp : AH} {L : List Th} (n : Int) (d : Dq cv nb si H Hp L) (hsi : si < H.next) (hc : CodeX cv nb si H) (hsc : Sc H) (hnb : nb ≤ 4611686018427387904) (hn : n ≤ 9223372036854775807) :
    ACalls Tryz.prog 99 [.pointer (some ⟨si, 0, none⟩), .int .i64 n] Hp (fun v H' => ∃ x : Nat, v = .int .i64 x ∧ ((n < 1 ∧ x = 0) ∨ (x : Int) < n) ∧ LES (fun j => j ≠ si) Hp H' ∧ Dq cv nb si H H' L) := by
  refine (l01Next_c cv nb si n Hp hn hnb (d.src hsi) (d.code hc hsc)).mono ?_
  rintro v H' ⟨x, hv, hx, hS⟩
  exact ⟨x, hv, hx, hS.les, d.next hsi hS⟩
theorem VL.take {n : Nat} {l : List Int} (h : VL n l) (k : Nat) : VL n (l.take k) := fun x hx => h x (List.mem_of_mem_take hx)
end Go.Proofs.YtpienljnoaendaaGreat.A
end

section
set_option maxRecDepth 100000
set_option maxHeartbeats 2000000
namespace Go.Proofs.YtpienljnoaendaaGreat.A
open Go Go.Abs Go.RowKit
end Go.Proofs.YtpienljnoaendaaGreat.A
end

section
set_option maxRecDepth 100000
set_option maxHeartbeats 2000000
namespace Go.Proofs.YtpienljnoaendaaGreat.A
open Go Go.Abs Go.RowKit
theorem VL.bad {n : Nat} {l : List Int} (h : VL n l) (hn : n ≤ 14) : ∀ x, x ∈ l → -1 ≤ x ∧ x ≤ 14 := fun x hx => by
  have := h x hx
  omega
end Go.Proofs.YtpienljnoaendaaGreat.A
end

section
set_option maxRecDepth 100000
set_option maxHeartbeats 2000000
namespace Go.Proofs.YtpienljnoaendaaGreat.A
open Go Go.Abs Go.RowKit
theorem Ow.four {B H : AH} {a b c d : Th} (o : Ow B H [a, b, c, d]) : Ow B H [a, d, c] :=
  o.sub (fun j => ([0, 3, 2] : List Nat).getD j 9) (fun j hj => by
    have hj : j < 3 := hj
    rcases j with _ | _ | _ | j <;> first | rfl | omega) (fun x y hx hy h => by
    have hh : ∀ x, x < 3 → ∀ y, y < 3 → ([0, 3, 2] : List Nat).getD x 9 = ([0, 3, 2] : List Nat).getD y 9 → x = y := by decide
    exact hh x hx y hy h)
end Go.Proofs.YtpienljnoaendaaGreat.A
end

section
set_option maxRecDepth 100000
set_option maxHeartbeats 2000000
namespace Go.Proofs.YtpienljnoaendaaGreat.A
open Go Go.Abs Go.RowKit
def EvL (ll : List (List Int)) : Prop := ll.length ≤ 64 ∧ ∀ r ∈ ll, r.length ≤ 64
theorem EvL.nil : EvL [] := ⟨by simp, by simp⟩
theorem EvL.app {ll mm : List (List Int)} (h : EvL ll) (k : EvL mm) (hl : ll.length + mm.length ≤ 64) : EvL (ll ++ mm) := ⟨by simp; omega, fun r hr => by
  rcases List.mem_append.1 hr with h1 | h1
  · exact h.2 r h1
  · exact k.2 r h1⟩
theorem specRenumberPlayers_c (n : Nat) (u : Value) (R : List (List Int)) (pv : Value) (y : List Int) (H : AH) (hn : 1 ≤ n ∧ n ≤ 16) (hu : Rd2 1 H u R) (hR : EvL R) (hp : Rd 1 H pv n y) (hy : PermL n y) :
    ACalls Tryz.prog 46 [.agg #[.int .i64 n, u], pv] H (fun r H' => ∃ (q : Int × Int) (w : Value) (ll : List (List Int)), r = .tuple #[.agg #[.int .i64 q.1, w], .int .i64 q.2] ∧ (0 ≤ q.1 ∧ q.1 ≤ 16) ∧ EvL ll ∧ Ow H H' [.sl2 (Value.int .i64) 33 2 w ll]) := by
  refine ACalls.wf (by kernel_rfl) fun hs => acalls_of_awp [.cell 4 55, .tmp 5] Tryz.func46 (by kernel_rfl) rfl rfl (Nat.le_of_ble_eq_true rfl) (by kernel_rfl) ?_
  have hone := hu.one
  have hpo := hp.one
  have hyl := hy.len
  have o1 := ((Ow.refl hs).push ⟨55, true, [.int .i64 n, u]⟩).push ⟨55, true, [.int .i64 0, .slice none 0 0]⟩
  try simp (disch := first | omega | (simp only [L3] <;> omega)) only [Sall,evalOp,init,binA_s,binE,binI,unE,convE,okNil,builtE,gv,TD.isAgg,resV,↓reduceIte,Nat.reduceEqDiff,reduceCtorEq,Nat.reduceAdd,Nat.reduceMul,Nat.reduceLeDiff,quietOp,blindOp,Int.reduceEq,Int.reduceLT,Int.reduceLE,Nat.reduceLT,tiA,tiXA, hone]
  obtain ⟨pi, epi⟩ : ∃ pi, pi = H.next := ⟨_, rfl⟩
  have o1 : Ow H ((H.push ⟨55, true, [.int .i64 n, u]⟩).push ⟨55, true, [.int .i64 0, .slice none 0 0]⟩) [.row H.next ⟨55, true, [.int .i64 n, u]⟩, .row (H.next + 1) ⟨55, true, [.int .i64 0, .slice none 0 0]⟩] := o1
  rw [← epi] at o1 ⊢
  generalize (H.push ⟨55, true, [.int .i64 n, u]⟩).push ⟨55, true, [.int .i64 0, .slice none 0 0]⟩ = H1 at o1 ⊢
  have hu1 := hu.same (o1.old hs)
  have g0 := (o1.rowAt 0 rfl).1
  have g1 := (o1.rowAt 1 rfl).1
  have bad : ∀ c : Int, ∃ (q : Int × Int) (w : Value) (ll : List (List Int)), (.tuple #[.agg #[.int .i64 0, .slice none 0 0], .int .i64 c] : Value) = .tuple #[.agg #[.int .i64 q.1, w], .int .i64 q.2] ∧ (0 ≤ q.1 ∧ q.1 ≤ 16) ∧ EvL ll ∧ Ow H (H1.setCells (pi + 1) [.int .i64 0, .slice none 0 0]) [.sl2 (Value.int .i64) 33 2 w ll] := fun c => by
    have o2 := o1.putRow 1 rfl (cs' := [.int .i64 0, .slice none 0 0])
    exact ⟨(0, c), _, [], rfl, ⟨by omega, by omega⟩, EvL.nil, Ow.add (Ow.left (L := []) o2) _ (Nat.le_refl _) o2.sc (fun _ _ => rfl) fun S hS => .inl ⟨rfl, rfl⟩⟩
  try simp (disch := first | omega | (simp only [L3] <;> omega)) only [Sall,evalOp,init,binA_s,binE,binI,unE,convE,okNil,builtE,gv,TD.isAgg,resV,↓reduceIte,Nat.reduceEqDiff,reduceCtorEq,Nat.reduceAdd,Nat.reduceMul,Nat.reduceLeDiff,quietOp,blindOp,Int.reduceEq,Int.reduceLT,Int.reduceLE,Nat.reduceLT,tiA,tiXA, g0, hone]
  refine (l06Is_c n u R H1 hu1 (by have := hR.1; omega) (fun r hr => by have := hR.2 r hr; omega)).to ?_
  refine Holds.mp ?_
  obtain hE | hE : evB n R = true ∨ evB n R = false := by cases evB n R <;> simp
  · obtain ⟨n', en, h4, h16, h20, hall⟩ := evB_at hE
    obtain rfl : n = n' := by omega
    try simp (disch := first | omega | (simp only [L3] <;> omega)) only [Sall,evalOp,init,binA_s,binE,binI,unE,convE,okNil,builtE,gv,TD.isAgg,resV,↓reduceIte,Nat.reduceEqDiff,reduceCtorEq,Nat.reduceAdd,Nat.reduceMul,Nat.reduceLeDiff,quietOp,blindOp,Int.reduceEq,Int.reduceLT,Int.reduceLE,Nat.reduceLT,tiA,tiXA, hE, Bool.not_true, g0]
    refine (l01Order_c n (by omega) pv y H1 (by rw [hyl]; exact hp.same (o1.old hs)) (by omega)).to ?_
    refine Holds.mp ?_
    cases hO : ordB n y with
    | false =>
      try simp (disch := first | omega | (simp only [L3] <;> omega)) only [Sall,evalOp,init,binA_s,binE,binI,unE,convE,okNil,builtE,gv,TD.isAgg,resV,↓reduceIte,Nat.reduceEqDiff,reduceCtorEq,Nat.reduceAdd,Nat.reduceMul,Nat.reduceLeDiff,quietOp,blindOp,Int.reduceEq,Int.reduceLT,Int.reduceLE,Nat.reduceLT,tiA,tiXA, Bool.not_false, g1]
      exact bad 2
    | true =>
      have o2 := ((o1.pushSl2 (Value.int .i64) 33 2).push ⟨55, true, [.int .i64 0, .slice none 0 0]⟩)
      have zz0 : zeros 0 [.slice none 0 0] = [] := rfl
      have npi : ¬ pi = H1.next := by have := (o1.rowAt 0 rfl).2.2; omega
      try simp (disch := first | omega | (simp only [L3] <;> omega)) only [Sall,evalOp,init,binA_s,binE,binI,unE,convE,okNil,builtE,gv,TD.isAgg,resV,↓reduceIte,Nat.reduceEqDiff,reduceCtorEq,Nat.reduceAdd,Nat.reduceMul,Nat.reduceLeDiff,quietOp,blindOp,Int.reduceEq,Int.reduceLT,Int.reduceLE,Nat.reduceLT,tiA,tiXA, Bool.not_true, g0, zz0, npi]
      have o3 := o2.putRow 3 rfl (cs' := [.int .i64 n, .slice (some ⟨H1.next, 0, some 1⟩) 0 0])
      obtain ⟨ri, eri⟩ : ∃ ri, ri = H1.next + 1 := ⟨_, rfl⟩
      have eri2 : (H1.push ⟨33, true, []⟩).next = ri := by rw [eri]; rfl
      rw [eri2] at o3
      rw [← eri]
      refine awp_loop (fun z t H' => ∃ (i : Nat) (w : Value) (ll : List (List Int)), z = R.length - i ∧ i ≤ R.length ∧ t 7 = .int .i64 i ∧ t 1 = pv ∧ t 2 = .pointer (some ⟨pi, 0, none⟩) ∧ t 4 = .pointer (some ⟨pi + 1, 0, none⟩) ∧ t 6 = .pointer (some ⟨ri, 0, none⟩) ∧ ll.length = i ∧ (∀ r ∈ ll, r.length ≤ 64) ∧ Ow H H' [.row pi ⟨55, true, [.int .i64 n, u]⟩, .row (pi + 1) ⟨55, true, [.int .i64 0, .slice none 0 0]⟩, .sl2 (Value.int .i64) 33 2 w ll, .row ri ⟨55, true, [.int .i64 n, w]⟩]) R.length ?_ ?_
      · refine ⟨0, .slice (some ⟨H1.next, 0, some 1⟩) 0 0, [], by omega, by omega, ?_⟩
        try simp (disch := first | omega | (simp only [L3] <;> omega)) only [Sall,evalOp,init,binA_s,binE,binI,unE,convE,okNil,builtE,gv,TD.isAgg,resV,↓reduceIte,Nat.reduceEqDiff,reduceCtorEq,Nat.reduceAdd,Nat.reduceMul,Nat.reduceLeDiff,quietOp,blindOp,Int.reduceEq,Int.reduceLT,Int.reduceLE,Nat.reduceLT,tiA,tiXA, Int.natCast_zero]
        exact ⟨fun r h => by simp at h, o3⟩
      · rintro z t H2 ⟨i, w, ll, hz, hi, h7, h1, h2, h4', h6, hll, hlr, o4⟩
        have g0 := (o4.rowAt 0 rfl).1
        have hu4 := hu.same (o4.old hs)
        have lu := hu4.len
        try simp (disch := first | omega | (simp only [L3] <;> omega)) only [Sall,evalOp,init,binA_s,binE,binI,unE,convE,okNil,builtE,gv,TD.isAgg,resV,↓reduceIte,Nat.reduceEqDiff,reduceCtorEq,Nat.reduceAdd,Nat.reduceMul,Nat.reduceLeDiff,quietOp,blindOp,Int.reduceEq,Int.reduceLT,Int.reduceLE,Nat.reduceLT,tiA,tiXA, h7, h2, g0, builtE, lu]
        refine condC_dec (fun hh => ?_) (fun hh => ?_)
        · obtain ⟨row, erow⟩ : ∃ row, row = R.getD i [] := ⟨_, rfl⟩
          have hrow := hall i (by omega)
          rw [← erow] at hrow
          have zz1 : zeros 0 [.int .i64 0] = ints [] := rfl
          try simp (disch := first | omega | (simp only [L3] <;> omega)) only [Sall,evalOp,init,binA_s,binE,binI,unE,convE,okNil,builtE,gv,TD.isAgg,resV,↓reduceIte,Nat.reduceEqDiff,reduceCtorEq,Nat.reduceAdd,Nat.reduceMul,Nat.reduceLeDiff,quietOp,blindOp,Int.reduceEq,Int.reduceLT,Int.reduceLE,Nat.reduceLT,tiA,tiXA, zz1]
          have o5 := o4.pushSl (k := 1) (n := 0) (ty := 2) (vs := ints []) rfl
          refine awp_loop (fun z' t H' => ∃ (k : Nat) (x : Value) (l : List Int), z' = row.length - k ∧ k ≤ row.length ∧ t 9 = .int .i64 k ∧ t 8 = x ∧ t 7 = .int .i64 i ∧ t 1 = pv ∧ t 2 = .pointer (some ⟨pi, 0, none⟩) ∧ t 4 = .pointer (some ⟨pi + 1, 0, none⟩) ∧ t 6 = .pointer (some ⟨ri, 0, none⟩) ∧ l.length = k ∧ Ow H H' [.row pi ⟨55, true, [.int .i64 n, u]⟩, .row (pi + 1) ⟨55, true, [.int .i64 0, .slice none 0 0]⟩, .sl2 (Value.int .i64) 33 2 w ll, .row ri ⟨55, true, [.int .i64 n, w]⟩, .sl 1 2 x k (ints l)]) row.length ?_ ?_
          · refine ⟨0, .slice (some ⟨H2.next, 0, some 1⟩) 0 0, [], by omega, by omega, ?_⟩
            try simp (disch := first | omega | (simp only [L3] <;> omega)) only [Sall,evalOp,init,binA_s,binE,binI,unE,convE,okNil,builtE,gv,TD.isAgg,resV,↓reduceIte,Nat.reduceEqDiff,reduceCtorEq,Nat.reduceAdd,Nat.reduceMul,Nat.reduceLeDiff,quietOp,blindOp,Int.reduceEq,Int.reduceLT,Int.reduceLE,Nat.reduceLT,tiA,tiXA, Int.natCast_zero]
            exact ⟨h7, h1, h2, h4', h6, o5⟩
          · rintro z' t H3 ⟨k, x, l, hz', hk, h9, h8, h7, h1, h2, h4', h6, hlk, o6⟩
            have g0 := (o6.rowAt 0 rfl).1
            have hu6 := hu.same (o6.old hs)
            obtain ⟨xi, xo, xuu, xc, xr, yv, my, ex, hxr, hyv, hsx, hok⟩ := hu6.get (j := i) (by omega)
            rw [← erow] at hsx
            have hmm := hsx.lenK1
            subst hmm
            have ly := hsx.len
            have hx := o6.one 4 rfl
            try simp (disch := first | omega | (simp only [L3] <;> omega)) only [Sall,evalOp,init,binA_s,binE,binI,unE,convE,okNil,builtE,gv,TD.isAgg,resV,↓reduceIte,Nat.reduceEqDiff,reduceCtorEq,Nat.reduceAdd,Nat.reduceMul,Nat.reduceLeDiff,quietOp,blindOp,Int.reduceEq,Int.reduceLT,Int.reduceLE,Nat.reduceLT,tiA,tiXA, h9, h7, h2, g0, ex, hxr, hyv, hok, builtE, ly]
            refine ⟨by omega, ?_⟩
            refine condC_dec (fun hh => ?_) (fun hh => ?_)
            · obtain ⟨ci, co, cu, cc, cr, rfl, c1, c2, c3, c4⟩ := hsx.get (by omega)
              have c5 := c3 k (by omega)
              have r1 := hrow.2.2.1 (row.getD k 0) (by rw [List.getD_eq_getElem?_getD, List.getElem?_eq_getElem (by omega)]; exact List.getElem_mem _)
              obtain ⟨di, dd, du, dc, dr, ed, d1, d2, d3, d4⟩ := (hp.same (o6.old hs)).get (by omega)
              have d5 := d3 (row.getD k 0).toNat (by omega)
              obtain ⟨x1, ex1⟩ : ∃ x1, x1 = row.getD k 0 := ⟨_, rfl⟩
              rw [← ex1] at c5 d5 r1
              obtain ⟨p1, ep1⟩ : ∃ p1, p1 = y.getD x1.toNat 0 := ⟨_, rfl⟩
              rw [← ep1] at d5
              have zz : zeros 1 [.int .i64 0] = [.int .i64 0] := rfl
              try simp (disch := first | omega | (simp only [L3] <;> omega)) only [Sall,evalOp,init,binA_s,binE,binI,unE,convE,okNil,builtE,gv,TD.isAgg,resV,↓reduceIte,Nat.reduceEqDiff,reduceCtorEq,Nat.reduceAdd,Nat.reduceMul,Nat.reduceLeDiff,quietOp,blindOp,Int.reduceEq,Int.reduceLT,Int.reduceLE,Nat.reduceLT,tiA,tiXA, h9, h8, h7, h1, h2, g0, ex, hxr, hyv, hok, c1, c5, ed, d1, d5, zz, slCells, hx, w64]
              (repeat refine And.intro (by omega) ?_)
              refine (o6.tmp ⟨2, true, [.int .i64 p1]⟩).app 4 rfl rfl (by omega) rfl (by omega) (by decide) (by omega) ?_
              intro v' H4 n4 o7
              try simp (disch := first | omega | (simp only [L3] <;> omega)) only [Sall,evalOp,init,binA_s,binE,binI,unE,convE,okNil,builtE,gv,TD.isAgg,resV,↓reduceIte,Nat.reduceEqDiff,reduceCtorEq,Nat.reduceAdd,Nat.reduceMul,Nat.reduceLeDiff,quietOp,blindOp,Int.reduceEq,Int.reduceLT,Int.reduceLE,Nat.reduceLT,tiA,tiXA, h9, h7, h1, h2, h4', h6, w64]
              refine ⟨row.length - (k + 1), by omega, k + 1, v', l ++ [p1], rfl, by omega, by omega, rfl, by rw [List.length_append, hlk]; rfl, ?_⟩
              rw [← ints_append] at *
              exact o7
            · have hlk2 : l.length = k := hlk
              have g3 := (o6.rowAt 3 rfl).1
              have hw := (o6.rd2 2 rfl).one
              have zz : zeros 1 [.slice none 0 0] = [.slice none 0 0] := rfl
              have hq1 := cells_of_one hx
              have hq2 := noTuple_of_one hx
              have hq3 := fun rr => ok_one (r := rr) hx
              have hw3 := fun rr => ok_one (r := rr) hw
              have nri : ¬ ri = H3.next := by have := (o6.rowAt 3 rfl).2.2; omega
              try simp (disch := first | omega | (simp only [L3] <;> omega)) only [Sall,evalOp,init,binA_s,binE,binI,unE,convE,okNil,builtE,gv,TD.isAgg,resV,↓reduceIte,Nat.reduceEqDiff,reduceCtorEq,Nat.reduceAdd,Nat.reduceMul,Nat.reduceLeDiff,quietOp,blindOp,Int.reduceEq,Int.reduceLT,Int.reduceLE,Nat.reduceLT,tiA,tiXA, h6, h8, hx, g3, hw, zz, slCells, hq1, hq2, hq3, hw3, nri]
              (repeat refine And.intro (by omega) ?_)
              refine (o6.tmp ⟨33, true, [x]⟩).app2 (l := l) 2 4 rfl (by rw [← hlk2]; rfl) (by omega) rfl (by decide) (by omega) ?_
              intro v' H4 n4 o7
              have g3' := (o7.rowAt 3 rfl).1
              have hv' := (o7.rd2 2 rfl).one
              try simp (disch := first | omega | (simp only [L3] <;> omega)) only [Sall,evalOp,init,binA_s,binE,binI,unE,convE,okNil,builtE,gv,TD.isAgg,resV,↓reduceIte,Nat.reduceEqDiff,reduceCtorEq,Nat.reduceAdd,Nat.reduceMul,Nat.reduceLeDiff,quietOp,blindOp,Int.reduceEq,Int.reduceLT,Int.reduceLE,Nat.reduceLT,tiA,tiXA, h6, h7, h1, h2, h4', g3', hv', w64]
              refine ⟨R.length - (i + 1), by omega, i + 1, v', ll ++ [l], rfl, by omega, by omega, by simp [hll], fun r hr => ?_, ?_⟩
              · rcases List.mem_append.1 hr with h | h
                · exact hlr r h
                · rw [List.mem_singleton] at h; rw [h]; omega
              · have o8 : Ow H (H4.setCells ri [.int .i64 n, v']) ([.row pi ⟨55, true, [.int .i64 n, u]⟩, .row (pi + 1) ⟨55, true, [.int .i64 0, .slice none 0 0]⟩, .sl2 (Value.int .i64) 33 2 v' (ll ++ [l]), .row ri ⟨55, true, [.int .i64 n, v']⟩] ++ [.no]) := o7.putRow 3 rfl (cs' := [.int .i64 n, v'])
                exact o8.left
        · have g3 := (o4.rowAt 3 rfl).1
          have g1 := (o4.rowAt 1 rfl).1
          have hw := (o4.rd2 2 rfl).one
          try simp (disch := first | omega | (simp only [L3] <;> omega)) only [Sall,evalOp,init,binA_s,binE,binI,unE,convE,okNil,builtE,gv,TD.isAgg,resV,↓reduceIte,Nat.reduceEqDiff,reduceCtorEq,Nat.reduceAdd,Nat.reduceMul,Nat.reduceLeDiff,quietOp,blindOp,Int.reduceEq,Int.reduceLT,Int.reduceLE,Nat.reduceLT,tiA,tiXA, h6, g3, hw, g1, h4']
          refine ⟨(n, 0), w, ll, rfl, ⟨by omega, by omega⟩, ⟨by omega, hlr⟩, ?_⟩
          exact (o4.putRow 1 rfl (cs' := [.int .i64 n, w])).only 2 rfl
  · try simp (disch := first | omega | (simp only [L3] <;> omega)) only [Sall,evalOp,init,binA_s,binE,binI,unE,convE,okNil,builtE,gv,TD.isAgg,resV,↓reduceIte,Nat.reduceEqDiff,reduceCtorEq,Nat.reduceAdd,Nat.reduceMul,Nat.reduceLeDiff,quietOp,blindOp,Int.reduceEq,Int.reduceLT,Int.reduceLE,Nat.reduceLT,tiA,tiXA, hE, Bool.not_false, g1]
    exact bad 1
end Go.Proofs.YtpienljnoaendaaGreat.A
end

section
set_option maxRecDepth 100000
set_option maxHeartbeats 2000000
namespace Go.Proofs.YtpienljnoaendaaGreat.A
open Go Go.Abs Go.RowKit
def DrawnE (cv : Value) (nb si : Nat) (H : AH) (v : Value) (H' : AH) : Prop :=
  ∃ (q : Int) (u : Value) (ws : List Value) (ll : List (List Int)), v = .agg #[.int .i64 q, u] ∧ (0 ≤ q ∧ q ≤ 16) ∧ EvL ll ∧ Dq cv nb si H H' [.see (Rw u ws ll)]
theorem Dq.sees {cv : Value} {nb si : Nat} {H H' : AH} {L : List Th} (h : Dq cv nb si H H' L) (k : Nat) {Q : AH → Prop} (hk : L[k]? = some (.see Q)) : Q H' := by
  obtain ⟨B, b, o⟩ := h.ex
  exact o.sees k hk
theorem EvL.made {n m : Nat} {y : List Int} (hm : m ≤ 64) (hy : y.length ≤ 64) : EvL (madeL m y m) := ⟨by rw [madeL_length]; exact hm, fun r hr => by
  unfold madeL at hr
  rw [List.mem_map] at hr
  obtain ⟨i, _, rfl⟩ := hr
  rw [mdL_length]; exact hy⟩
theorem Dq.sl2Rw {cv : Value} {nb si : Nat} {H H' : AH} {L : List Th} (h : Dq cv nb si H H' L) (k : Nat) {ty ty' : TypeId} {u : Value} {ll : List (List Int)} (hk : L[k]? = some (.sl2 (Value.int .i64) ty ty' u ll)) : ∃ ws, Dq cv nb si H H' [.see (Rw u ws ll)] := by
  obtain ⟨B, b, o⟩ := h.ex
  obtain ⟨ws, o'⟩ := o.sl2Rw k hk
  exact ⟨ws, ⟨⟨B, b, o'⟩⟩⟩
theorem condB_cut {P : Program} {A : Code} {id : Nat} {Q : Exit → T → AH → Prop} {N : T → AH → Prop} {t : T} {H : AH} {b : Bool} (M : T → AH → Prop) (hf : b = false → M t H) (ht : b = true → awp P A (blockQ id (seqQ M Q)) t H) (hN : ∀ t H, M t H → N t H) :
    condC (some (.bool b)) (awp P A (blockQ id (seqQ N Q)) t H) (N t H) := by
  cases b with
  | false => exact hN _ _ (hf rfl)
  | true => exact awp_mono A _ _ t H (blockQ_mono (seqQ_mono hN fun _ _ _ h => h)) (ht rfl)
theorem l06DrawOf_c (cv : Value) (nb si : Nat) (H : AH) (hnb : nb ≤ 4611686018427387904) (hs : Src cv nb si H) (hc : CodeX cv nb si H) :
    ACalls Tryz.prog 248 [.pointer (some ⟨si, 0, none⟩)] H (DrawnE cv nb si H) := by
  refine ACalls.wf (by kernel_rfl) fun hsc => acalls_of_awp [.cell 2 55] Tryz.func248 (by kernel_rfl) rfl rfl (Nat.le_of_ble_eq_true rfl) (by kernel_rfl) ?_
  obtain ⟨_, _, hrow, _⟩ := id hs
  have hsi := hsc _ _ hrow
  clear hrow
  have d0 := (Dq.start hs hsc).push ⟨55, true, [.int .i64 0, .slice none 0 0]⟩
  have d0 : Dq cv nb si H (H.push ⟨55, true, [.int .i64 0, .slice none 0 0]⟩) [.row H.next ⟨55, true, [.int .i64 0, .slice none 0 0]⟩] := d0
  have hb : ∀ (t : T) (H : AH), evalOp Tryz.prog t H (.buildSlice 33 9 #[(0, .const (.int .i64 4)), (1, .const (.int .i64 5)), (2, .const (.int .i64 8)), (3, .const (.int .i64 8)), (4, .const (.int .i64 9)), (5, .const (.int .i64 12)), (6, .const (.int .i64 13)), (7, .const (.int .i64 7)), (8, .const (.int .i64 16))]) = .need (9 ≤ 16777216 ∧ 9 * 1 ≤ 16777216) (.val (.slice (some ⟨H.next, 0, some 1⟩) 9 9) (H.push ⟨2, true, ints [4, 5, 8, 8, 9, 12, 13, 7, 16]⟩)) := fun t H => by kernel_rfl
  generalize (Op.buildSlice 33 9 #[(0, .const (.int .i64 4)), (1, .const (.int .i64 5)), (2, .const (.int .i64 8)), (3, .const (.int .i64 8)), (4, .const (.int .i64 9)), (5, .const (.int .i64 12)), (6, .const (.int .i64 13)), (7, .const (.int .i64 7)), (8, .const (.int .i64 16))]) = bop at hb ⊢
  have hb8 : ∀ (t : T) (H : AH), evalOp Tryz.prog t H (.buildSlice 33 8 #[(0, .const (.int .i64 7)), (1, .const (.int .i64 0)), (2, .const (.int .i64 4)), (3, .const (.int .i64 5)), (4, .const (.int .i64 1)), (5, .const (.int .i64 3)), (6, .const (.int .i64 2)), (7, .const (.int .i64 6))]) = .need (8 ≤ 16777216 ∧ 8 * 1 ≤ 16777216) (.val (.slice (some ⟨H.next, 0, some 1⟩) 8 8) (H.push ⟨2, true, ints [7, 0, 4, 5, 1, 3, 2, 6]⟩)) := fun t H => by kernel_rfl
  generalize (Op.buildSlice 33 8 #[(0, .const (.int .i64 7)), (1, .const (.int .i64 0)), (2, .const (.int .i64 4)), (3, .const (.int .i64 5)), (4, .const (.int .i64 1)), (5, .const (.int .i64 3)), (6, .const (.int .i64 2)), (7, .const (.int .i64 6))]) = bop8 at hb8 ⊢
  have hb4 : ∀ (t : T) (H : AH), evalOp Tryz.prog t H (.buildSlice 33 4 #[(0, .const (.int .i64 3)), (1, .const (.int .i64 0)), (2, .const (.int .i64 1)), (3, .const (.int .i64 2))]) = .need (4 ≤ 16777216 ∧ 4 * 1 ≤ 16777216) (.val (.slice (some ⟨H.next, 0, some 1⟩) 4 4) (H.push ⟨2, true, ints [3, 0, 1, 2]⟩)) := fun t H => by kernel_rfl
  generalize (Op.buildSlice 33 4 #[(0, .const (.int .i64 3)), (1, .const (.int .i64 0)), (2, .const (.int .i64 1)), (3, .const (.int .i64 2))]) = bop4 at hb4 ⊢
  have hb5 : ∀ (t : T) (H : AH), evalOp Tryz.prog t H (.buildSlice 33 4 #[(0, .const (.int .i64 1)), (1, .const (.int .i64 4)), (2, .const (.int .i64 2)), (3, .const (.int .i64 3))]) = .need (4 ≤ 16777216 ∧ 4 * 1 ≤ 16777216) (.val (.slice (some ⟨H.next, 0, some 1⟩) 4 4) (H.push ⟨2, true, ints [1, 4, 2, 3]⟩)) := fun t H => by kernel_rfl
  generalize (Op.buildSlice 33 4 #[(0, .const (.int .i64 1)), (1, .const (.int .i64 4)), (2, .const (.int .i64 2)), (3, .const (.int .i64 3))]) = bop5 at hb5 ⊢
  simp (config := {maxSteps := 3000000}) (disch := first | omega | (simp only [L3] <;> omega)) only [Sall,evalOp,init,binA_s,binE,binI,unE,convE,okNil,builtE,gv,TD.isAgg,resV,↓reduceIte,Nat.reduceEqDiff,reduceCtorEq,Nat.reduceAdd,Nat.reduceMul,Nat.reduceLeDiff,quietOp,blindOp,Int.reduceEq,Int.reduceLT,Int.reduceLE,Nat.reduceLT,tiA,tiXA, ↓hb]
  refine (pickL [4, 5, 8, 8, 9, 12, 13, 7, 16] 9 rfl (by omega) (by omega) d0 hsi hc hsc hnb).ex ?_
  rintro x H2 ⟨hx, d1⟩
  have hx2 : 4 ≤ x ∧ x ≤ 16 := by
    simp only [List.mem_cons, List.not_mem_nil, or_false] at hx
    omega
  obtain ⟨n, rfl⟩ : ∃ n : Nat, x = n := ⟨x.toNat, by omega⟩
  have hn : 4 ≤ n ∧ n ≤ 16 := by omega
  refine Holds.mp ?_
  try simp (disch := first | omega | (simp only [L3] <;> omega)) only [Sall,evalOp,init,binA_s,binE,binI,unE,convE,okNil,builtE,gv,TD.isAgg,resV,↓reduceIte,Nat.reduceEqDiff,reduceCtorEq,Nat.reduceAdd,Nat.reduceMul,Nat.reduceLeDiff,quietOp,blindOp,Int.reduceEq,Int.reduceLT,Int.reduceLE,Nat.reduceLT,tiA,tiXA, true_and]
  refine (nextD 3 d1 hsi hc hsc hnb (by omega)).ex ?_
  rintro c H3 ⟨hc3, d2⟩
  refine Holds.mp ?_
  try simp (disch := first | omega | (simp only [L3] <;> omega)) only [Sall,evalOp,init,binA_s,binE,binI,unE,convE,okNil,builtE,gv,TD.isAgg,resV,↓reduceIte,Nat.reduceEqDiff,reduceCtorEq,Nat.reduceAdd,Nat.reduceMul,Nat.reduceLeDiff,quietOp,blindOp,Int.reduceEq,Int.reduceLT,Int.reduceLE,Nat.reduceLT,tiA,tiXA, true_and]
  by_cases c0 : (c : Int) = 0
  · have f0 : ((c : Int) == 0) = true := beq_iff_eq.2 c0
    have zz3 : zeros 3 [.slice none 0 0] = [.slice none 0 0, .slice none 0 0, .slice none 0 0] := rfl
    have s0 : ∀ a b c x : Value, splice [a, b, c] 0 [x] = [x, b, c] := fun _ _ _ _ => rfl
    have s1 : ∀ a b c x : Value, splice [a, b, c] 1 [x] = [a, x, c] := fun _ _ _ _ => rfl
    have s2 : ∀ a b c x : Value, splice [a, b, c] 2 [x] = [a, b, x] := fun _ _ _ _ => rfl
    have l3 : ∀ a b c : Value, [a, b, c].length = 3 := fun _ _ _ => rfl
    simp (config := {maxSteps := 3000000}) (disch := first | omega | (simp only [L3] <;> omega)) only [Sall,evalOp,init,binA_s,binE,binI,unE,convE,okNil,builtE,gv,TD.isAgg,resV,↓reduceIte,Nat.reduceEqDiff,reduceCtorEq,Nat.reduceAdd,Nat.reduceMul,Nat.reduceLeDiff,quietOp,blindOp,Int.reduceEq,Int.reduceLT,Int.reduceLE,Nat.reduceLT,tiA,tiXA, f0, ↓hb4, ↓hb5, ↓hb8, zz3, s0, s1, s2, l3]
    have d3 : Dq cv nb si H ((((H3.push ⟨2, true, ints [3, 0, 1, 2]⟩).push ⟨2, true, ints [1, 4, 2, 3]⟩).push ⟨2, true, ints [7, 0, 4, 5, 1, 3, 2, 6]⟩).push ⟨33, true, [.slice (some ⟨H3.next, 0, some 1⟩) 4 4, .slice (some ⟨H3.next + 1, 0, some 1⟩) 4 4, .slice (some ⟨H3.next + 2, 0, some 1⟩) 8 8]⟩) [.row H.next ⟨55, true, [.int .i64 0, .slice none 0 0]⟩, .sl 1 2 (.slice (some ⟨H3.next, 0, some 1⟩) 4 4) 4 (ints [3, 0, 1, 2]), .sl 1 2 (.slice (some ⟨H3.next + 1, 0, some 1⟩) 4 4) 4 (ints [1, 4, 2, 3]), .sl 1 2 (.slice (some ⟨H3.next + 2, 0, some 1⟩) 8 8) 8 (ints [7, 0, 4, 5, 1, 3, 2, 6]), .sl 1 33 (.slice (some ⟨H3.next + 1 + 2, 0, some 1⟩) 3 3) 3 [.slice (some ⟨H3.next, 0, some 1⟩) 4 4, .slice (some ⟨H3.next + 1, 0, some 1⟩) 4 4, .slice (some ⟨H3.next + 2, 0, some 1⟩) 8 8]] :=
      d2.map fun B o => (((o.pushSl (k := 1) (n := 4) (ty := 2) (vs := ints [3, 0, 1, 2]) rfl).pushSl (k := 1) (n := 4) (ty := 2) (vs := ints [1, 4, 2, 3]) rfl).pushSl (k := 1) (n := 8) (ty := 2) (vs := ints [7, 0, 4, 5, 1, 3, 2, 6]) rfl).pushSl (k := 1) (n := 3) (ty := 33) (vs := [.slice (some ⟨H3.next, 0, some 1⟩) 4 4, .slice (some ⟨H3.next + 1, 0, some 1⟩) 4 4, .slice (some ⟨H3.next + 2, 0, some 1⟩) 8 8]) rfl
    generalize ((((H3.push ⟨2, true, ints [3, 0, 1, 2]⟩).push ⟨2, true, ints [1, 4, 2, 3]⟩).push ⟨2, true, ints [7, 0, 4, 5, 1, 3, 2, 6]⟩).push ⟨33, true, [.slice (some ⟨H3.next, 0, some 1⟩) 4 4, .slice (some ⟨H3.next + 1, 0, some 1⟩) 4 4, .slice (some ⟨H3.next + 2, 0, some 1⟩) 8 8]⟩) = H4 at d3 ⊢
    obtain ⟨wi, ewi⟩ : ∃ wi, wi = H3.next := ⟨_, rfl⟩
    rw [← ewi] at d3 ⊢
    refine (nextD 3 d3 hsi hc hsc hnb (by omega)).ex ?_
    rintro y H5 ⟨hy, d4⟩
    have hy3 : y = 0 ∨ y = 1 ∨ y = 2 := by omega
    obtain ⟨B4, b4, o4⟩ := id d4.ex
    have gw := (o4.getV 4 rfl).2.2
    have pick : ∃ (bi m p : Nat) (q4 r t s o0 : Int) (ol : List Int), ([.slice (some ⟨wi, 0, some 1⟩) 4 4, .slice (some ⟨wi + 1, 0, some 1⟩) 4 4, .slice (some ⟨wi + 2, 0, some 1⟩) 8 8] : List Value)[y]? = some (.slice (some ⟨bi, 0, some 1⟩) m m) ∧ Dq cv nb si H H5 [.row H.next ⟨55, true, [.int .i64 0, .slice none 0 0]⟩, .sl 1 2 (.slice (some ⟨bi, 0, some 1⟩) m m) m (ints ol)] ∧ (0 < m ∧ m ≤ 8) ∧ ol.length = m ∧ (4 ≤ p ∧ p ≤ 8) ∧ (∀ x, x ∈ ol → 0 ≤ x ∧ x < (p : Int)) ∧ (ints ol)[0]? = some (.int .i64 o0) ∧ Int.tdiv (m : Int) 4 = q4 ∧ Int.tmod q4 2 = r ∧ Int.tdiv o0 3 = t ∧ r * (1 - t) = s ∧ (m : Int) + s = p ∧ (0 ≤ q4 ∧ q4 ≤ 2) ∧ (0 ≤ r ∧ r ≤ 1) ∧ (0 ≤ t ∧ t ≤ 2) ∧ (0 ≤ s ∧ s ≤ 1) := by
      rcases hy3 with rfl | rfl | rfl
      · exact ⟨wi, 4, 4, 1, 1, 1, 0, 3, [3, 0, 1, 2], rfl, d4.map fun B o => o.pick2 0 1 rfl rfl (by omega), by omega, rfl, by omega, by decide, rfl, rfl, rfl, rfl, rfl, rfl, by omega, by omega, by omega, by omega⟩
      · exact ⟨wi + 1, 4, 5, 1, 1, 0, 1, 1, [1, 4, 2, 3], rfl, d4.map fun B o => o.pick2 0 2 rfl rfl (by omega), by omega, rfl, by omega, by decide, rfl, rfl, rfl, rfl, rfl, rfl, by omega, by omega, by omega, by omega⟩
      · exact ⟨wi + 2, 8, 8, 2, 0, 2, 0, 7, [7, 0, 4, 5, 1, 3, 2, 6], rfl, d4.map fun B o => o.pick2 0 3 rfl rfl (by omega), by omega, rfl, by omega, by decide, rfl, rfl, rfl, rfl, rfl, rfl, by omega, by omega, by omega, by omega⟩
    clear hy3
    obtain ⟨bi, m, p, q4, r, t, s, o0, ol, k1, d5, hm, hol, hp, hin, k2, k3, k4, k5, k6, k7, r1, r2, r3, r4⟩ := pick
    obtain ⟨B5, b5, o5⟩ := id d5.ex
    have gb := (o5.getV 1 rfl).2.2
    have yn : ((y : Nat) : Int).toNat = y := rfl
    refine Holds.mp ?_
    simp (config := {maxSteps := 3000000}) (disch := first | omega | (simp only [L3] <;> omega)) only [Sall,evalOp,init,binA_s,binE,binI,unE,convE,okNil,builtE,gv,TD.isAgg,resV,↓reduceIte,Nat.reduceEqDiff,reduceCtorEq,Nat.reduceAdd,Nat.reduceMul,Nat.reduceLeDiff,quietOp,blindOp,Int.reduceEq,Int.reduceLT,Int.reduceLE,Nat.reduceLT,tiA,tiXA, gw, gb, yn, k1, k2, k3, k4, k5, k6, k7, Int.toNat_zero, builtE, w64]
    refine ⟨by omega, by omega, ?_⟩
    refine (ACalls.scz (g := fun u => .agg #[.int .i64 (p : Int), u]) (l06Made_c p (by omega) _ ol H5 (by rw [hol]; exact o5.rd 1 rfl) (by omega) hin)).ex ?_
    rintro u H6 ⟨⟨up6, f6⟩, sc6⟩
    have d6 := d5.calls (Ow.of_fr2 up6 sc6 f6)
    have hu := (d6.rd2 2 rfl).one
    have hEv : EvL (madeL (mOf p) ol (mOf p)) := EvL.made (n := p) (by unfold mOf; omega) (by omega)
    refine Holds.mp ?_
    try simp (disch := first | omega | (simp only [L3] <;> omega)) only [Sall,evalOp,init,binA_s,binE,binI,unE,convE,okNil,builtE,gv,TD.isAgg,resV,↓reduceIte,Nat.reduceEqDiff,reduceCtorEq,Nat.reduceAdd,Nat.reduceMul,Nat.reduceLeDiff,quietOp,blindOp,Int.reduceEq,Int.reduceLT,Int.reduceLE,Nat.reduceLT,tiA,tiXA, hu]
    have d7 := (d6.push ⟨55, true, [.int .i64 0, .slice none 0 0]⟩).putRow 3 rfl (cs' := [.int .i64 p, u])
    obtain ⟨re, ere⟩ : ∃ re, re = H6.next := ⟨_, rfl⟩
    have d7 : Dq cv nb si H ((H6.push ⟨55, true, [.int .i64 0, .slice none 0 0]⟩).setCells H6.next [.int .i64 p, u]) [.row H.next ⟨55, true, [.int .i64 0, .slice none 0 0]⟩, .sl2 (Value.int .i64) 33 2 u (madeL (mOf p) ol (mOf p)), .row H6.next ⟨55, true, [.int .i64 p, u]⟩] := d7.map fun B o => o.pick3 0 2 3 rfl rfl rfl (by omega) (by omega) (by omega)
    have nre : ¬ re = si := by have := d6.le; omega
    rw [← ere] at d7 ⊢
    generalize (H6.push ⟨55, true, [.int .i64 0, .slice none 0 0]⟩).setCells re [.int .i64 p, u] = H7 at d7 ⊢
    clear ere
    have g2 := d7.rowAt 2 rfl
    refine awp_cutQ (fun t H' => ∃ (rk : Nat) (q : Int) (w : Value) (ll : List (List Int)), t 2 = .pointer (some ⟨H.next, 0, none⟩) ∧ t 7 = .pointer (some ⟨rk, 0, none⟩) ∧ (0 ≤ q ∧ q ≤ 16) ∧ EvL ll ∧ Dq cv nb si H H' [.row H.next ⟨55, true, [.int .i64 0, .slice none 0 0]⟩, .row rk ⟨55, true, [.int .i64 q, w]⟩, .sl2 (Value.int .i64) 33 2 w ll]) ?_ ?_
    · refine draw_treeS (fun j => j ≠ si) (OT.run [0, 1, 2, 3] (.two 4 9 (OT.run [] (.two 5 9 (OT.run [6, 7, 8, 9, 10, 11] .nil) (OT.run [5, 6, 7, 8, 10, 11] .nil))) (OT.run [4, 5, 6, 7, 8, 10, 11] .nil))) (by kernel_rfl) (by kernel_rfl) (Nat.le_of_ble_eq_true rfl) ?_
      try simp (disch := first | omega | (simp only [L3] <;> omega)) only [Sall,evalOp,init,binA_s,binE,binI,unE,convE,okNil,builtE,gv,TD.isAgg,resV,↓reduceIte,Nat.reduceEqDiff,reduceCtorEq,Nat.reduceAdd,Nat.reduceMul,Nat.reduceLeDiff,quietOp,blindOp,Int.reduceEq,Int.reduceLT,Int.reduceLE,Nat.reduceLT,tiA,tiXA, awpTS_run_nil, awpTS_run_cons, awpTS_nil, awpTS_one, stepIS_op, loadOk, g2, hu, nre]
      refine awpTS_two ?_ ?_
      · try simp (disch := first | omega | (simp only [L3] <;> omega)) only [Sall,evalOp,init,binA_s,binE,binI,unE,convE,okNil,builtE,gv,TD.isAgg,resV,↓reduceIte,Nat.reduceEqDiff,reduceCtorEq,Nat.reduceAdd,Nat.reduceMul,Nat.reduceLeDiff,quietOp,blindOp,Int.reduceEq,Int.reduceLT,Int.reduceLE,Nat.reduceLT,tiA,tiXA, awpTS_run_nil, awpTS_run_cons, awpTS_nil, awpTS_one, stepIS_op, loadOk, hu, nre]
        refine (l01DrawOrder_c cv nb si p H7 (by omega) hnb (d7.src hsi) (d7.code hc hsc)).mono ?_
        rintro w H8 ⟨y, B8, k8, o8, hpl⟩
        rw [Int.toNat_natCast] at o8 hpl
        have d8 := d7.call hsi k8 o8
        have hw := o8.one 0 rfl
        refine ⟨.inr (.inr (les_of k8 o8 d7.sc)), ?_⟩
        try simp (disch := first | omega | (simp only [L3] <;> omega)) only [Sall,evalOp,init,binA_s,binE,binI,unE,convE,okNil,builtE,gv,TD.isAgg,resV,↓reduceIte,Nat.reduceEqDiff,reduceCtorEq,Nat.reduceAdd,Nat.reduceMul,Nat.reduceLeDiff,quietOp,blindOp,Int.reduceEq,Int.reduceLT,Int.reduceLE,Nat.reduceLT,tiA,tiXA, awpTS_run_nil, awpTS_run_cons, awpTS_nil, awpTS_one, stepIS_op, loadOk, hu, nre, hw]
        refine awpTS_two ?_ ?_
        · try simp (disch := first | omega | (simp only [L3] <;> omega)) only [Sall,evalOp,init,binA_s,binE,binI,unE,convE,okNil,builtE,gv,TD.isAgg,resV,↓reduceIte,Nat.reduceEqDiff,reduceCtorEq,Nat.reduceAdd,Nat.reduceMul,Nat.reduceLeDiff,quietOp,blindOp,Int.reduceEq,Int.reduceLT,Int.reduceLE,Nat.reduceLT,tiA,tiXA, awpTS_run_nil, awpTS_run_cons, awpTS_nil, awpTS_one, stepIS_op, loadOk, hu, nre, hw]
          refine (specRenumberPlayers_c p u _ w y H8 (by omega) (d8.rd2 1 rfl) hEv (d8.rd 3 rfl) hpl).mono ?_
          rintro rv H9 ⟨q, w', ll', rfl, hq, hll, o9⟩
          have d9 := d8.calls o9
          have hw' := (o9.rd2 0 rfl).one
          refine ⟨.inr (.inr (LE.les (o9.up.le d8.sc))), ?_⟩
          try simp (disch := first | omega | (simp only [L3] <;> omega)) only [Sall,evalOp,init,binA_s,binE,binI,unE,convE,okNil,builtE,gv,TD.isAgg,resV,↓reduceIte,Nat.reduceEqDiff,reduceCtorEq,Nat.reduceAdd,Nat.reduceMul,Nat.reduceLeDiff,quietOp,blindOp,Int.reduceEq,Int.reduceLT,Int.reduceLE,Nat.reduceLT,tiA,tiXA, awpTS_run_nil, awpTS_run_cons, awpTS_nil, awpTS_one, stepIS_op, loadOk, hw']
          have da := (d9.push ⟨55, true, [.int .i64 0, .slice none 0 0]⟩).putRow 5 rfl (cs' := [.int .i64 q.1, w'])
          exact ⟨.inr (.inr (LE.les (d9.sc.le _))), .inr (.inl (by kernel_rfl)), _, q.1, w', ll', rfl, hq, hll, da.map fun B o => o.pick3 0 5 4 rfl rfl rfl (by omega) (by omega) (by omega)⟩
        · try simp (disch := first | omega | (simp only [L3] <;> omega)) only [Sall,evalOp,init,binA_s,binE,binI,unE,convE,okNil,builtE,gv,TD.isAgg,resV,↓reduceIte,Nat.reduceEqDiff,reduceCtorEq,Nat.reduceAdd,Nat.reduceMul,Nat.reduceLeDiff,quietOp,blindOp,Int.reduceEq,Int.reduceLT,Int.reduceLE,Nat.reduceLT,tiA,tiXA, awpTS_run_nil, awpTS_run_cons, awpTS_nil, awpTS_one, stepIS_op, loadOk, hu, nre, hw]
          have d9 := d8.push ⟨55, true, [.int .i64 0, .slice none 0 0]⟩
          refine ⟨.inr (.inr (LE.les (d8.sc.le _))), ?_⟩
          obtain ⟨rk, erk⟩ : ∃ rk, rk = H8.next := ⟨_, rfl⟩
          rw [← erk] at d9 ⊢
          generalize H8.push ⟨55, true, [.int .i64 0, .slice none 0 0]⟩ = H9 at d9 ⊢
          try simp (disch := first | omega | (simp only [L3] <;> omega)) only [Sall,evalOp,init,binA_s,binE,binI,unE,convE,okNil,builtE,gv,TD.isAgg,resV,↓reduceIte,Nat.reduceEqDiff,reduceCtorEq,Nat.reduceAdd,Nat.reduceMul,Nat.reduceLeDiff,quietOp,blindOp,Int.reduceEq,Int.reduceLT,Int.reduceLE,Nat.reduceLT,tiA,tiXA, awpTS_run_nil, awpTS_run_cons, awpTS_nil, awpTS_one, stepIS_op, loadOk, hu, nre, hw]
          refine (specRenumberPlayers_c p u _ w y H9 (by omega) (d9.rd2 1 rfl) hEv (d9.rd 3 rfl) hpl).mono ?_
          rintro rv Ha ⟨q, w', ll', rfl, hq, hll, oa⟩
          have da := d9.calls oa
          have hw' := (oa.rd2 0 rfl).one
          refine ⟨.inr (.inr (LE.les (oa.up.le d9.sc))), ?_⟩
          have g4 := da.rowAt 4 rfl
          try simp (disch := first | omega | (simp only [L3] <;> omega)) only [Sall,evalOp,init,binA_s,binE,binI,unE,convE,okNil,builtE,gv,TD.isAgg,resV,↓reduceIte,Nat.reduceEqDiff,reduceCtorEq,Nat.reduceAdd,Nat.reduceMul,Nat.reduceLeDiff,quietOp,blindOp,Int.reduceEq,Int.reduceLT,Int.reduceLE,Nat.reduceLT,tiA,tiXA, awpTS_run_nil, awpTS_run_cons, awpTS_nil, awpTS_one, stepIS_op, loadOk, hw', g4]
          have db := da.putRow 4 rfl (cs' := [.int .i64 q.1, w'])
          exact ⟨.inr (.inl (by kernel_rfl)), _, q.1, w', ll', rfl, hq, hll, db.map fun B o => o.pick3 0 4 5 rfl rfl rfl (by omega) (by omega) (by omega)⟩
      · try simp (disch := first | omega | (simp only [L3] <;> omega)) only [Sall,evalOp,init,binA_s,binE,binI,unE,convE,okNil,builtE,gv,TD.isAgg,resV,↓reduceIte,Nat.reduceEqDiff,reduceCtorEq,Nat.reduceAdd,Nat.reduceMul,Nat.reduceLeDiff,quietOp,blindOp,Int.reduceEq,Int.reduceLT,Int.reduceLE,Nat.reduceLT,tiA,tiXA, awpTS_run_nil, awpTS_run_cons, awpTS_nil, awpTS_one, stepIS_op, loadOk, hu, nre]
        have d8 := d7.push ⟨55, true, [.int .i64 0, .slice none 0 0]⟩
        refine ⟨.inr (.inr (LE.les (d7.sc.le _))), ?_⟩
        obtain ⟨rk, erk⟩ : ∃ rk, rk = H7.next := ⟨_, rfl⟩
        rw [← erk] at d8 ⊢
        generalize H7.push ⟨55, true, [.int .i64 0, .slice none 0 0]⟩ = H8 at d8 ⊢
        try simp (disch := first | omega | (simp only [L3] <;> omega)) only [Sall,evalOp,init,binA_s,binE,binI,unE,convE,okNil,builtE,gv,TD.isAgg,resV,↓reduceIte,Nat.reduceEqDiff,reduceCtorEq,Nat.reduceAdd,Nat.reduceMul,Nat.reduceLeDiff,quietOp,blindOp,Int.reduceEq,Int.reduceLT,Int.reduceLE,Nat.reduceLT,tiA,tiXA, awpTS_run_nil, awpTS_run_cons, awpTS_nil, awpTS_one, stepIS_op, loadOk, hu, nre]
        refine (l01DrawOrder_c cv nb si p H8 (by omega) hnb (d8.src hsi) (d8.code hc hsc)).mono ?_
        rintro w H9 ⟨y, B8, k8, o8, hpl⟩
        rw [Int.toNat_natCast] at o8 hpl
        have d9 := d8.call hsi k8 o8
        have hw := o8.one 0 rfl
        refine ⟨.inr (.inr (les_of k8 o8 d8.sc)), ?_⟩
        try simp (disch := first | omega | (simp only [L3] <;> omega)) only [Sall,evalOp,init,binA_s,binE,binI,unE,convE,okNil,builtE,gv,TD.isAgg,resV,↓reduceIte,Nat.reduceEqDiff,reduceCtorEq,Nat.reduceAdd,Nat.reduceMul,Nat.reduceLeDiff,quietOp,blindOp,Int.reduceEq,Int.reduceLT,Int.reduceLE,Nat.reduceLT,tiA,tiXA, awpTS_run_nil, awpTS_run_cons, awpTS_nil, awpTS_one, stepIS_op, loadOk, hu, nre, hw]
        refine (specRenumberPlayers_c p u _ w y H9 (by omega) (d9.rd2 1 rfl) hEv (d9.rd 4 rfl) hpl).mono ?_
        rintro rv Ha ⟨q, w', ll', rfl, hq, hll, oa⟩
        have da := d9.calls oa
        have hw' := (oa.rd2 0 rfl).one
        refine ⟨.inr (.inr (LE.les (oa.up.le d9.sc))), ?_⟩
        have g4 := da.rowAt 3 rfl
        try simp (disch := first | omega | (simp only [L3] <;> omega)) only [Sall,evalOp,init,binA_s,binE,binI,unE,convE,okNil,builtE,gv,TD.isAgg,resV,↓reduceIte,Nat.reduceEqDiff,reduceCtorEq,Nat.reduceAdd,Nat.reduceMul,Nat.reduceLeDiff,quietOp,blindOp,Int.reduceEq,Int.reduceLT,Int.reduceLE,Nat.reduceLT,tiA,tiXA, awpTS_run_nil, awpTS_run_cons, awpTS_nil, awpTS_one, stepIS_op, loadOk, hw', g4]
        have db := da.putRow 3 rfl (cs' := [.int .i64 q.1, w'])
        exact ⟨.inr (.inl (by kernel_rfl)), _, q.1, w', ll', rfl, hq, hll, db.map fun B o => o.pick3 0 3 5 rfl rfl rfl (by omega) (by omega) (by omega)⟩
    · rintro t Hb ⟨rk, q, w, ll, h2, h7, hq, hll, db⟩
      have gk := db.rowAt 1 rfl
      have g0 := db.rowAt 0 rfl
      have hw := (db.rd2 2 rfl).one
      try simp (disch := first | omega | (simp only [L3] <;> omega)) only [Sall,evalOp,init,binA_s,binE,binI,unE,convE,okNil,builtE,gv,TD.isAgg,resV,↓reduceIte,Nat.reduceEqDiff,reduceCtorEq,Nat.reduceAdd,Nat.reduceMul,Nat.reduceLeDiff,quietOp,blindOp,Int.reduceEq,Int.reduceLT,Int.reduceLE,Nat.reduceLT,tiA,tiXA, h2, h7, gk, g0, hw]
      obtain ⟨ws, dw⟩ := (db.putRow 0 rfl (cs' := [.int .i64 q, w])).sl2Rw 2 rfl
      exact ⟨q, w, ws, ll, rfl, hq, hll, dw⟩
  · have f0 : ((c : Int) == 0) = false := beq_eq_false_iff_ne.2 c0
    simp (config := {maxSteps := 3000000}) (disch := first | omega | (simp only [L3] <;> omega)) only [Sall,evalOp,init,binA_s,binE,binI,unE,convE,okNil,builtE,gv,TD.isAgg,resV,↓reduceIte,Nat.reduceEqDiff,reduceCtorEq,Nat.reduceAdd,Nat.reduceMul,Nat.reduceLeDiff,quietOp,blindOp,Int.reduceEq,Int.reduceLT,Int.reduceLE,Nat.reduceLT,tiA,tiXA, f0]
    refine condB_cut (fun t H' => t 0 = .pointer (some ⟨si, 0, none⟩) ∧ t 2 = .pointer (some ⟨H.next, 0, none⟩) ∧ t 3 = .int .i64 n ∧ Dq cv nb si H H' [.row H.next ⟨55, true, [.int .i64 0, .slice none 0 0]⟩]) (fun _ => ?_) (fun _ => ?_) ?_
    · try simp (disch := first | omega | (simp only [L3] <;> omega)) only [Sall,evalOp,init,binA_s,binE,binI,unE,convE,okNil,builtE,gv,TD.isAgg,resV,↓reduceIte,Nat.reduceEqDiff,reduceCtorEq,Nat.reduceAdd,Nat.reduceMul,Nat.reduceLeDiff,quietOp,blindOp,Int.reduceEq,Int.reduceLT,Int.reduceLE,Nat.reduceLT,tiA,tiXA, true_and]
      exact d2
    · have em : Int.tmod (n : Int) 4 = ((n % 4 : Nat) : Int) := rfl
      try simp (disch := first | omega | (simp only [L3] <;> omega)) only [Sall,evalOp,init,binA_s,binE,binI,unE,convE,okNil,builtE,gv,TD.isAgg,resV,↓reduceIte,Nat.reduceEqDiff,reduceCtorEq,Nat.reduceAdd,Nat.reduceMul,Nat.reduceLeDiff,quietOp,blindOp,Int.reduceEq,Int.reduceLT,Int.reduceLE,Nat.reduceLT,tiA,tiXA, em, w64]
      refine condC_dec (fun h2 => ?_) (fun h2 => ?_)
      · have h2 : n % 4 < 2 := by omega
        try simp (disch := first | omega | (simp only [L3] <;> omega)) only [Sall,evalOp,init,binA_s,binE,binI,unE,convE,okNil,builtE,gv,TD.isAgg,resV,↓reduceIte,Nat.reduceEqDiff,reduceCtorEq,Nat.reduceAdd,Nat.reduceMul,Nat.reduceLeDiff,quietOp,blindOp,Int.reduceEq,Int.reduceLT,Int.reduceLE,Nat.reduceLT,tiA,tiXA, em, w64]
        refine (l01DrawOrder_c cv nb si n H3 (by omega) hnb (d2.src hsi) (d2.code hc hsc)).mono ?_
        rintro w H4 ⟨y, B4, k4, o4, hpl⟩
        rw [Int.toNat_natCast] at o4 hpl
        have d3 := d2.call hsi k4 o4
        obtain ⟨cw, hcw, d5⟩ := (d3.toCap 1 rfl).cut 1 rfl (hi := some ((n : Int) - ((n % 4 : Nat) : Int))) (b := n - n % 4) (by simp only [Option.getD_some]; omega) (by omega)
        have hw := o4.one 0 rfl
        have g0 := d5.rowAt 0 rfl
        have hco := d5.capOne 1 rfl
        have hrd := (d5.capRs 1 rfl).rd
        have hyl := hpl.len
        have hytl : (y.take ((n - n % 4) * 1)).length = n - n % 4 := by rw [List.length_take]; omega
        refine Holds.mp ?_
        try simp (disch := first | omega | (simp only [L3] <;> omega)) only [Sall,evalOp,init,binA_s,binE,binI,unE,convE,okNil,builtE,gv,TD.isAgg,resV,↓reduceIte,Nat.reduceEqDiff,reduceCtorEq,Nat.reduceAdd,Nat.reduceMul,Nat.reduceLeDiff,quietOp,blindOp,Int.reduceEq,Int.reduceLT,Int.reduceLE,Nat.reduceLT,tiA,tiXA, em, hw, w64]
        refine hcw _ _ _ _ rfl ?_
        try simp (disch := first | omega | (simp only [L3] <;> omega)) only [Sall,evalOp,init,binA_s,binE,binI,unE,convE,okNil,builtE,gv,TD.isAgg,resV,↓reduceIte,Nat.reduceEqDiff,reduceCtorEq,Nat.reduceAdd,Nat.reduceMul,Nat.reduceLeDiff,quietOp,blindOp,Int.reduceEq,Int.reduceLT,Int.reduceLE,Nat.reduceLT,tiA,tiXA, em, hco, w64]
        refine (ACalls.scz (g := fun u => .agg #[.int .i64 (n : Int), u]) (l06Made_c n (by omega) cw (y.take ((n - n % 4) * 1)) H4 (by rw [hytl]; exact hrd) (by omega) (fun x hx => hpl.rng x (List.mem_of_mem_take hx)))).ex ?_
        rintro u H6 ⟨⟨up6, f6⟩, sc6⟩
        have d6 := d5.calls (Ow.of_fr2 up6 sc6 f6)
        have hu := (d6.rd2 2 rfl).one
        have g0 := d6.rowAt 0 rfl
        refine Holds.mp ?_
        try simp (disch := first | omega | (simp only [L3] <;> omega)) only [Sall,evalOp,init,binA_s,binE,binI,unE,convE,okNil,builtE,gv,TD.isAgg,resV,↓reduceIte,Nat.reduceEqDiff,reduceCtorEq,Nat.reduceAdd,Nat.reduceMul,Nat.reduceLeDiff,quietOp,blindOp,Int.reduceEq,Int.reduceLT,Int.reduceLE,Nat.reduceLT,tiA,tiXA, hu, g0]
        obtain ⟨ws, dw⟩ := (d6.putRow 0 rfl (cs' := [.int .i64 n, u])).sl2Rw 2 rfl
        exact ⟨n, u, ws, _, rfl, ⟨by omega, by omega⟩, EvL.made (n := n) (by unfold mOf; omega) (by omega), dw⟩
      · try simp (disch := first | omega | (simp only [L3] <;> omega)) only [Sall,evalOp,init,binA_s,binE,binI,unE,convE,okNil,builtE,gv,TD.isAgg,resV,↓reduceIte,Nat.reduceEqDiff,reduceCtorEq,Nat.reduceAdd,Nat.reduceMul,Nat.reduceLeDiff,quietOp,blindOp,Int.reduceEq,Int.reduceLT,Int.reduceLE,Nat.reduceLT,tiA,tiXA, true_and]
        exact d2
    · rintro t H4 ⟨h0, h2, h3, d3⟩
      have zz0 : zeros 0 [.slice none 0 0] = [] := rfl
      try simp (disch := first | omega | (simp only [L3] <;> omega)) only [Sall,evalOp,init,binA_s,binE,binI,unE,convE,okNil,builtE,gv,TD.isAgg,resV,↓reduceIte,Nat.reduceEqDiff,reduceCtorEq,Nat.reduceAdd,Nat.reduceMul,Nat.reduceLeDiff,quietOp,blindOp,Int.reduceEq,Int.reduceLT,Int.reduceLE,Nat.reduceLT,tiA,tiXA, h0, h2, h3, zz0]
      have d4 := d3.map fun B o => ((((o.pushSl (k := 1) (n := 0) (ty := 33) (vs := []) rfl).push ⟨55, true, [.int .i64 0, .slice none 0 0]⟩).putRow 2 rfl (cs' := [.int .i64 n, .slice (some ⟨H4.next, 0, some 1⟩) 0 0])).addSee (Q := RowsOk [] []) RowsOk.nil)
      obtain ⟨ri, eri⟩ : ∃ ri, ri = H4.next + 1 := ⟨_, rfl⟩
      have d4 : Dq cv nb si H (((H4.push ⟨33, true, []⟩).push ⟨55, true, [.int .i64 0, .slice none 0 0]⟩).setCells (H4.next + 1) [.int .i64 n, .slice (some ⟨H4.next, 0, some 1⟩) 0 0]) [.row H.next ⟨55, true, [.int .i64 0, .slice none 0 0]⟩, .sl 1 33 (.slice (some ⟨H4.next, 0, some 1⟩) 0 0) 0 [], .row (H4.next + 1) ⟨55, true, [.int .i64 n, .slice (some ⟨H4.next, 0, some 1⟩) 0 0]⟩, .see (RowsOk [] [])] := d4
      have nri : ¬ ri = si := by have := d3.le; omega
      rw [← eri] at d4 ⊢
      obtain ⟨w0, ew0⟩ : ∃ w0, w0 = Value.slice (some ⟨H4.next, 0, some 1⟩) 0 0 := ⟨_, rfl⟩
      rw [← ew0] at d4 ⊢
      generalize ((H4.push ⟨33, true, []⟩).push ⟨55, true, [.int .i64 0, .slice none 0 0]⟩).setCells ri [.int .i64 n, w0] = H5 at d4 ⊢
      refine (nextD 5 d4 hsi hc hsc hnb (by omega)).ex ?_
      rintro k H6 ⟨hk, d5⟩
      have hk5 : k < 5 := by omega
      refine Holds.mp ?_
      try simp (disch := first | omega | (simp only [L3] <;> omega)) only [Sall,evalOp,init,binA_s,binE,binI,unE,convE,okNil,builtE,gv,TD.isAgg,resV,↓reduceIte,Nat.reduceEqDiff,reduceCtorEq,Nat.reduceAdd,Nat.reduceMul,Nat.reduceLeDiff,quietOp,blindOp,Int.reduceEq,Int.reduceLT,Int.reduceLE,Nat.reduceLT,tiA,tiXA, h0, h2, h3]
      refine awp_loop (fun z t H' => ∃ (c m : Nat) (w : Value) (vs : List Value) (ll : List (List Int)), z = c ∧ m + c ≤ 4 ∧ t 10 = .int .i64 c ∧ t 0 = .pointer (some ⟨si, 0, none⟩) ∧ t 2 = .pointer (some ⟨H.next, 0, none⟩) ∧ t 3 = .int .i64 n ∧ t 9 = .pointer (some ⟨ri, 0, none⟩) ∧ ll.length = m ∧ (∀ r ∈ ll, r.length ≤ 64) ∧ Dq cv nb si H H' [.row H.next ⟨55, true, [.int .i64 0, .slice none 0 0]⟩, .sl 1 33 w m vs, .row ri ⟨55, true, [.int .i64 n, w]⟩, .see (RowsOk vs ll)]) k ?_ ?_
      · refine ⟨k, 0, w0, [], [], rfl, by omega, ?_⟩
        try simp (disch := first | omega | (simp only [L3] <;> omega)) only [Sall,evalOp,init,binA_s,binE,binI,unE,convE,okNil,builtE,gv,TD.isAgg,resV,↓reduceIte,Nat.reduceEqDiff,reduceCtorEq,Nat.reduceAdd,Nat.reduceMul,Nat.reduceLeDiff,quietOp,blindOp,Int.reduceEq,Int.reduceLT,Int.reduceLE,Nat.reduceLT,tiA,tiXA, h0, h2, h3]
        exact ⟨fun r h => by simp at h, d5⟩
      · rintro z t H7 ⟨c, m, w, vs, ll, rfl, hmc, h10, h0, h2, h3, h9, hll, hlr, d6⟩
        try simp (disch := first | omega | (simp only [L3] <;> omega)) only [Sall,evalOp,init,binA_s,binE,binI,unE,convE,okNil,builtE,gv,TD.isAgg,resV,↓reduceIte,Nat.reduceEqDiff,reduceCtorEq,Nat.reduceAdd,Nat.reduceMul,Nat.reduceLeDiff,quietOp,blindOp,Int.reduceEq,Int.reduceLT,Int.reduceLE,Nat.reduceLT,tiA,tiXA, h10]
        refine condC_dec (fun hh => ?_) (fun hh => ?_)
        · have g2 := d6.rowAt 2 rfl
          have hw := d6.one 1 rfl
          have ed : Int.tdiv (n : Int) 4 = ((n / 4 : Nat) : Int) := rfl
          try simp (disch := first | omega | (simp only [L3] <;> omega)) only [Sall,evalOp,init,binA_s,binE,binI,unE,convE,okNil,builtE,gv,TD.isAgg,resV,↓reduceIte,Nat.reduceEqDiff,reduceCtorEq,Nat.reduceAdd,Nat.reduceMul,Nat.reduceLeDiff,quietOp,blindOp,Int.reduceEq,Int.reduceLT,Int.reduceLE,Nat.reduceLT,tiA,tiXA, true_and]
          refine draw_inS (fun j => j ≠ si) [0, 1, 2, 3, 5, 6, 7, 8, 4, 9, 10, 11, 12, 13, 14, 15] (by kernel_rfl) (by kernel_rfl) (by kernel_rfl) ?_
          try simp (disch := first | omega | (simp only [L3] <;> omega)) only [Sall,evalOp,init,binA_s,binE,binI,unE,convE,okNil,builtE,gv,TD.isAgg,resV,↓reduceIte,Nat.reduceEqDiff,reduceCtorEq,Nat.reduceAdd,Nat.reduceMul,Nat.reduceLeDiff,quietOp,blindOp,Int.reduceEq,Int.reduceLT,Int.reduceLE,Nat.reduceLT,tiA,tiXA, awpIS_nil, awpIS_cons, stepIS_op, loadOk, h0, h3, h9, g2, hw, nri, ed, w64]
          refine (l01DrawOrder_c cv nb si n H7 (by omega) hnb (d6.src hsi) (d6.code hc hsc)).mono ?_
          rintro ov H8 ⟨y, B8, k8, o8, hpl⟩
          rw [Int.toNat_natCast] at o8 hpl
          have d7 := d6.call hsi k8 o8
          have hov := o8.one 0 rfl
          refine ⟨.inr (.inr (les_of k8 o8 d6.sc)), ?_⟩
          try simp (disch := first | omega | (simp only [L3] <;> omega)) only [Sall,evalOp,init,binA_s,binE,binI,unE,convE,okNil,builtE,gv,TD.isAgg,resV,↓reduceIte,Nat.reduceEqDiff,reduceCtorEq,Nat.reduceAdd,Nat.reduceMul,Nat.reduceLeDiff,quietOp,blindOp,Int.reduceEq,Int.reduceLT,Int.reduceLE,Nat.reduceLT,tiA,tiXA, awpIS_nil, awpIS_cons, stepIS_op, loadOk, h0, h3, h9, hov, nri, ed, w64]
          refine (nextE (((n / 4 : Nat) : Int) + 1) d7 hsi hc hsc hnb (by omega)).ex ?_
          rintro x H9 ⟨hx, les9, d8⟩
          have hx4 : 4 * x ≤ n := by omega
          refine ⟨.inr (.inr les9), ?_⟩
          obtain ⟨cw, hcw, d9⟩ := (d8.toCap 4 rfl).cut 4 rfl (hi := some (4 * (x : Int))) (b := 4 * x) (by simp only [Option.getD_some]; omega) hx4
          have hco := d9.capOne 4 rfl
          try simp (disch := first | omega | (simp only [L3] <;> omega)) only [Sall,evalOp,init,binA_s,binE,binI,unE,convE,okNil,builtE,gv,TD.isAgg,resV,↓reduceIte,Nat.reduceEqDiff,reduceCtorEq,Nat.reduceAdd,Nat.reduceMul,Nat.reduceLeDiff,quietOp,blindOp,Int.reduceEq,Int.reduceLT,Int.reduceLE,Nat.reduceLT,tiA,tiXA, awpIS_nil, awpIS_cons, stepIS_op, loadOk, nri, w64]
          refine hcw _ _ _ _ rfl ?_
          have hq1 := cells_of_one hco
          have hq2 := noTuple_of_one hco
          have hq3 := fun rr => ok_one (r := rr) hco
          have zz : zeros 1 [.slice none 0 0] = [.slice none 0 0] := rfl
          try simp (disch := first | omega | (simp only [L3] <;> omega)) only [Sall,evalOp,init,binA_s,binE,binI,unE,convE,okNil,builtE,gv,TD.isAgg,resV,↓reduceIte,Nat.reduceEqDiff,reduceCtorEq,Nat.reduceAdd,Nat.reduceMul,Nat.reduceLeDiff,quietOp,blindOp,Int.reduceEq,Int.reduceLT,Int.reduceLE,Nat.reduceLT,tiA,tiXA, awpIS_nil, awpIS_cons, stepIS_op, loadOk, nri, hco, hq1, hq2, hq3, zz, slCells]
          refine ⟨.inr (.inr (LE.les (d9.sc.le _))), ?_⟩
          obtain ⟨B9, b9, o9⟩ := id d9.ex
          have hyt : (y.take (4 * x * 1)).length = 4 * x := by rw [List.length_take, hpl.len]; omega
          refine (o9.tmp ⟨33, true, [cw]⟩).app 1 rfl rfl (by omega) rfl (by omega) (by decide) (by omega) ?_
          intro v' Ha na oa
          have hv' := oa.one 1 rfl
          have ga := (oa.rowAt 2 rfl).1
          refine ⟨.inr (.inl (by kernel_rfl)), ?_⟩
          try simp (disch := first | omega | (simp only [L3] <;> omega)) only [Sall,evalOp,init,binA_s,binE,binI,unE,convE,okNil,builtE,gv,TD.isAgg,resV,↓reduceIte,Nat.reduceEqDiff,reduceCtorEq,Nat.reduceAdd,Nat.reduceMul,Nat.reduceLeDiff,quietOp,blindOp,Int.reduceEq,Int.reduceLT,Int.reduceLE,Nat.reduceLT,tiA,tiXA, awpIS_nil, awpIS_cons, stepIS_op, loadOk, h0, h2, h3, h9, h10, nri, hv', ga, w64]
          have ob := oa.putRow 2 rfl (cs' := [.int .i64 n, v'])
          have oc := ob.addRow 3 4 (x := cw) (l := y.take (4 * x * 1)) rfl rfl (by omega) fun H S hp => by rw [hyt]; exact (cap_rs hp).rd
          refine ⟨.inr (.inl (by kernel_rfl)), ?_⟩
          refine ⟨z - 1, by omega, z - 1, m + 1, v', vs ++ [cw], ll ++ [y.take (4 * x * 1)], rfl, by omega, by omega, by simp [hll], fun r hr => ?_, ⟨⟨B9, b9, ?_⟩⟩⟩
          · rcases List.mem_append.1 hr with h | h
            · exact hlr r h
            · rw [List.mem_singleton] at h; rw [h]; omega
          · have od : Ow B9 (Ha.setCells ri [.int .i64 n, v']) ([.row H.next ⟨55, true, [.int .i64 0, .slice none 0 0]⟩, .sl 1 33 v' (m + 1) (vs ++ [cw]), .row ri ⟨55, true, [.int .i64 n, v']⟩, .see (RowsOk (vs ++ [cw]) (ll ++ [y.take (4 * x * 1)]))] ++ [.no]) := oc
            exact od.left
        · have g2 := d6.rowAt 2 rfl
          have g0 := d6.rowAt 0 rfl
          have hw := d6.one 1 rfl
          try simp (disch := first | omega | (simp only [L3] <;> omega)) only [Sall,evalOp,init,binA_s,binE,binI,unE,convE,okNil,builtE,gv,TD.isAgg,resV,↓reduceIte,Nat.reduceEqDiff,reduceCtorEq,Nat.reduceAdd,Nat.reduceMul,Nat.reduceLeDiff,quietOp,blindOp,Int.reduceEq,Int.reduceLT,Int.reduceLE,Nat.reduceLT,tiA,tiXA, h2, h9, g2, g0, hw]
          exact ⟨n, w, vs, ll, rfl, ⟨by omega, by omega⟩, ⟨by omega, hlr⟩, (d6.putRow 0 rfl (cs' := [.int .i64 n, w])).map fun B o => o.toRw 1 3 rfl rfl (by omega)⟩
end Go.Proofs.YtpienljnoaendaaGreat.A
end

section
set_option maxRecDepth 100000
set_option maxHeartbeats 2000000
namespace Go.Proofs.YtpienljnoaendaaGreat.A
open Go Go.Abs Go.RowKit
theorem Dq.seesX {cv : Value} {nb si : Nat} {H H' : AH} {L : List Th} (h : Dq cv nb si H H' L) (hsi : si < H.next) (k : Nat) {Q : AH → Prop} (hk : L[k]? = some (.see Q)) : ∀ H2, (∀ i r, H.next ≤ i → i ≠ si → H'.row i = some r → H2.row i = some r) → Q H2 := by
  obtain ⟨B, b, o⟩ := h.ex
  obtain ⟨S, hS, hp⟩ := o.at hk
  intro H2 h2
  exact hp H2 fun i r hi hr => h2 i r (by have := hS i hi; have := b.next; omega) (by have := hS i hi; have := b.next; omega) hr
theorem Dq.laterP {cv : Value} {nb si : Nat} {H H' : AH} {L : List Th} (h : Dq cv nb si H H' L) (hsi : si < H.next) (k : Nat) {p : Th} (hk : L[k]? = some p) : ∀ H2, (∀ i r, H.next ≤ i → i ≠ si → H'.row i = some r → H2.row i = some r) → ∃ S, p.p H2 S := by
  obtain ⟨B, b, o⟩ := h.ex
  obtain ⟨S, hS, hp⟩ := o.at hk
  intro H2 h2
  exact ⟨S, p.loc H' H2 S S (fun _ h => h) (fun i r hi hr => h2 i r (by have := hS i hi; have := b.next; omega) (by have := hS i hi; have := b.next; omega) hr) hp⟩
def BadE (lo : Nat) (cv : Value) (nb si : Nat) (H : AH) (v : Value) (H' : AH) : Prop :=
  ∃ (q : Int) (u : Value) (ll : List (List Int)), v = .agg #[.int .i64 q, u] ∧ (-1 ≤ q ∧ q ≤ 17) ∧ (ll.length ≤ 65 ∧ ∀ r ∈ ll, r.length ≤ 64) ∧ Dq cv nb si H H' [] ∧ ∀ H2, (∀ i r, lo ≤ i → i ≠ si → H'.row i = some r → H2.row i = some r) → Rd2 1 H2 u ll
theorem l06Bad_c (cv : Value) (nb si lo : Nat) (q : Int) (u : Value) (ws : List Value) (ll : List (List Int)) (H : AH) (hq : 0 ≤ q ∧ q ≤ 16) (hll : EvL ll) (hlo : lo ≤ H.next) (hv : ∀ H', (∀ i r, lo ≤ i → i ≠ si → H.row i = some r → H'.row i = some r) → Rw u ws ll H') (hnb : nb ≤ 4611686018427387904) (hs : Src cv nb si H) (hc : CodeX cv nb si H) :
    ACalls Tryz.prog 247 [.pointer (some ⟨si, 0, none⟩), .agg #[.int .i64 q, u]] H (BadE lo cv nb si H) := by
  refine ACalls.wf (by kernel_rfl) fun hsc => acalls_of_awp [.cell 4 55] Tryz.func247 (by kernel_rfl) rfl rfl (Nat.le_of_ble_eq_true rfl) (by kernel_rfl) ?_
  obtain ⟨_, _, hrow, _⟩ := id hs
  have hsi := hsc _ _ hrow
  clear hrow
  have hone := (hv H fun _ _ _ _ h => h).rd2.one
  have d0 := ((Dq.start hs hsc).push ⟨55, true, [.int .i64 q, u]⟩).push ⟨55, true, [.int .i64 0, .slice none 0 0]⟩
  have d0 : Dq cv nb si H ((H.push ⟨55, true, [.int .i64 q, u]⟩).push ⟨55, true, [.int .i64 0, .slice none 0 0]⟩) [.row H.next ⟨55, true, [.int .i64 q, u]⟩, .row (H.next + 1) ⟨55, true, [.int .i64 0, .slice none 0 0]⟩] := d0
  try simp (disch := first | omega | (simp only [L3] <;> omega)) only [Sall,evalOp,init,binA_s,binE,binI,unE,convE,okNil,builtE,gv,TD.isAgg,resV,↓reduceIte,Nat.reduceEqDiff,reduceCtorEq,Nat.reduceAdd,Nat.reduceMul,Nat.reduceLeDiff,quietOp,blindOp,Int.reduceEq,Int.reduceLT,Int.reduceLE,Nat.reduceLT,tiA,tiXA, hone]
  obtain ⟨pi, epi⟩ : ∃ pi, pi = H.next := ⟨_, rfl⟩
  rw [← epi] at d0 ⊢
  have npi : ¬ pi = si := by omega
  generalize (H.push ⟨55, true, [.int .i64 q, u]⟩).push ⟨55, true, [.int .i64 0, .slice none 0 0]⟩ = H1 at d0 ⊢
  refine (nextD 30 d0 hsi hc hsc hnb (by omega)).ex ?_
  rintro c H2 ⟨hc3, d1⟩
  refine Holds.mp ?_
  have g0 := d1.rowAt 0 rfl
  have g1 := d1.rowAt 1 rfl
  have npp : ¬ pi = pi + 1 := by omega
  have npp2 : ¬ pi + 1 = pi := by omega
  by_cases c0 : (c : Int) = 0
  · have f0 : ((c : Int) == 0) = true := beq_iff_eq.2 c0
    have zz3 : zeros 3 [.int .i64 0] = [.int .i64 0, .int .i64 0, .int .i64 0] := rfl
    simp (config := {maxSteps := 3000000}) (disch := first | omega | (simp only [L3] <;> omega)) only [Sall,evalOp,init,binA_s,binE,binI,unE,convE,okNil,builtE,gv,TD.isAgg,resV,↓reduceIte,Nat.reduceEqDiff,reduceCtorEq,Nat.reduceAdd,Nat.reduceMul,Nat.reduceLeDiff,quietOp,blindOp,Int.reduceEq,Int.reduceLT,Int.reduceLE,Nat.reduceLT,tiA,tiXA, f0, g0, g1, w64, zz3]
    refine (pickL [3, 17, q - 1] 3 rfl (by omega) (by omega) d1 hsi hc hsc hnb).ex ?_
    rintro p H3 ⟨hp, d2⟩
    have hp2 : -1 ≤ p ∧ p ≤ 17 := by
      simp only [List.mem_cons, List.not_mem_nil, or_false] at hp
      omega
    have g0' := d2.rowAt 0 rfl
    have g1' := d2.rowAt 1 rfl
    refine Holds.mp ?_
    try simp (disch := first | omega | (simp only [L3] <;> omega)) only [Sall,evalOp,init,binA_s,binE,binI,unE,convE,okNil,builtE,gv,TD.isAgg,resV,↓reduceIte,Nat.reduceEqDiff,reduceCtorEq,Nat.reduceAdd,Nat.reduceMul,Nat.reduceLeDiff,quietOp,blindOp,Int.reduceEq,Int.reduceLT,Int.reduceLE,Nat.reduceLT,tiA,tiXA, g0', g1', hone, npp, npp2]
    have d3 := (d2.putRow 0 rfl (cs' := [.int .i64 p, u])).putRow 1 rfl (cs' := [.int .i64 p, u])
    exact ⟨p, u, ll, rfl, hp2, ⟨by have := hll.1; omega, hll.2⟩, Dq.left (L := []) d3, fun H2 h2 => (hv H2 fun i r hl hi hr => h2 i r hl hi (d3.old hsc i r hi hr)).rd2⟩
  · have f0 : ((c : Int) == 0) = false := beq_eq_false_iff_ne.2 c0
    by_cases c1 : (c : Int) = 1
    · have f1 : ((c : Int) == 1) = true := beq_iff_eq.2 c1
      have zz0 : zeros 0 [.slice none 0 0] = [] := rfl
      have d2 := d1.map fun B o => o.pushSl (k := 1) (n := 0) (ty := 33) (vs := []) rfl
      have hwl : ws.length = ll.length := (hv H fun _ _ _ _ h => h).1.1
      have hl64 := hll.1
      have hv2 := hv _ fun i r _ => d2.old hsc i r
      have npi2 : ¬ pi = H2.next := by obtain ⟨B, b, o⟩ := id d1.ex; have := (o.rowAt 0 rfl).2.2; omega
      simp (config := {maxSteps := 3000000}) (disch := first | omega | (simp only [L3] <;> omega)) only [Sall,evalOp,init,binA_s,binE,binI,unE,convE,okNil,builtE,gv,TD.isAgg,resV,↓reduceIte,Nat.reduceEqDiff,reduceCtorEq,Nat.reduceAdd,Nat.reduceMul,Nat.reduceLeDiff,quietOp,blindOp,Int.reduceEq,Int.reduceLT,Int.reduceLE,Nat.reduceLT,tiA,tiXA, f0, f1, g0, g1, hone, npi2, w64, zz0]
      obtain ⟨B2, b2, o2⟩ := id d2.ex
      refine o2.appW 2 rfl hv2 rfl (by decide) (by omega) ?_
      intro v3 H3 n3 o3
      have o3 : Ow B2 H3 [.row pi ⟨55, true, [.int .i64 q, u]⟩, .row (pi + 1) ⟨55, true, [.int .i64 0, .slice none 0 0]⟩, .sl 1 33 v3 (0 + ws.length) ws] := o3
      have hv3 := o3.one 2 rfl
      have zi : zeros 3 [.int .i64 0] = [.int .i64 0, .int .i64 0, .int .i64 0] := rfl
      have zs1 : zeros 1 [.slice none 0 0] = [.slice none 0 0] := rfl
      have sp0 : splice ([.int .i64 0, .int .i64 0, .int .i64 0] : List Value) 0 [.int .i64 0] = [.int .i64 0, .int .i64 0, .int .i64 0] := rfl
      have sp1 : splice ([.int .i64 0, .int .i64 0, .int .i64 0] : List Value) 1 [.int .i64 1] = [.int .i64 0, .int .i64 1, .int .i64 0] := rfl
      have sp2 : splice ([.int .i64 0, .int .i64 1, .int .i64 0] : List Value) 2 [.int .i64 2] = [.int .i64 0, .int .i64 1, .int .i64 2] := rfl
      simp (config := {maxSteps := 3000000}) (disch := first | omega | (simp only [L3] <;> omega)) only [Sall,evalOp,init,binA_s,binE,binI,unE,convE,okNil,builtE,gv,TD.isAgg,resV,↓reduceIte,Nat.reduceEqDiff,reduceCtorEq,Nat.reduceAdd,Nat.reduceMul,Nat.reduceLeDiff,quietOp,blindOp,Int.reduceEq,Int.reduceLT,Int.reduceLE,Nat.reduceLT,tiA,tiXA, hv3, zi, zs1, sp0, sp1, sp2, slCells]
      have o4 := o3.pushSl (k := 1) (n := 3) (ty := 2) (vs := ints [0, 1, 2]) rfl
      refine (o4.tmp ⟨33, true, [.slice (some ⟨H3.next, 0, some 1⟩) 3 3]⟩).app 2 rfl rfl (by omega) rfl (by omega) (by decide) (by omega) ?_
      intro v5 H5 n5 o5
      have hv5 := o5.one 2 rfl
      have h0 := (o5.rowAt 0 rfl).1
      have h1 := (o5.rowAt 1 rfl).1
      simp (config := {maxSteps := 3000000}) (disch := first | omega | (simp only [L3] <;> omega)) only [Sall,evalOp,init,binA_s,binE,binI,unE,convE,okNil,builtE,gv,TD.isAgg,resV,↓reduceIte,Nat.reduceEqDiff,reduceCtorEq,Nat.reduceAdd,Nat.reduceMul,Nat.reduceLeDiff,quietOp,blindOp,Int.reduceEq,Int.reduceLT,Int.reduceLE,Nat.reduceLT,tiA,tiXA, hv3, hv5, h0, h1, npp, npp2]
      have d6 : Dq cv nb si H ((H5.setCells pi [.int .i64 q, v5]).setCells (pi + 1) [.int .i64 q, v5]) [.row pi ⟨55, true, [.int .i64 q, v5]⟩, .row (pi + 1) ⟨55, true, [.int .i64 q, v5]⟩, .sl 1 33 v5 (0 + ws.length + 1) (ws ++ [.slice (some ⟨H3.next, 0, some 1⟩) 3 3]), .sl 1 2 (.slice (some ⟨H3.next, 0, some 1⟩) 3 3) 3 (ints [0, 1, 2])] := ⟨⟨B2, b2, (o5.putRow 0 rfl (cs' := [.int .i64 q, v5])).putRow 1 rfl (cs' := [.int .i64 q, v5])⟩⟩
      refine ⟨q, v5, ll ++ [[0, 1, 2]], rfl, ⟨by omega, by omega⟩, ⟨by simp; omega, fun r hr => ?_⟩, Dq.left (L := []) d6, fun H2 h2 => ?_⟩
      · rcases List.mem_append.1 hr with h | h
        · exact hll.2 r h
        · rw [List.mem_singleton] at h; rw [h]; decide
      · obtain ⟨S1, p1⟩ := d6.laterP hsi 2 rfl H2 fun i r hl => h2 i r (by omega)
        obtain ⟨S2, p2⟩ := d6.laterP hsi 3 rfl H2 fun i r hl => h2 i r (by omega)
        exact RowsOk.rd2 ((hv H2 fun i r hl hi hr => h2 i r hl hi (d6.old hsc i r hi hr)).1.snoc (sl_rd p2)) p1
    · have f1 : ((c : Int) == 1) = false := beq_eq_false_iff_ne.2 c1
      by_cases c2 : (c : Int) = 2
      · have f2 : ((c : Int) == 2) = true := beq_iff_eq.2 c2
        have zz0 : zeros 0 [.slice none 0 0] = [] := rfl
        have d2 := d1.map fun B o => o.pushSl (k := 1) (n := 0) (ty := 33) (vs := []) rfl
        have hwl : ws.length = ll.length := (hv H fun _ _ _ _ h => h).1.1
        have hl64 := hll.1
        have hv2 := hv _ fun i r _ => d2.old hsc i r
        have npi2 : ¬ pi = H2.next := by obtain ⟨B, b, o⟩ := id d1.ex; have := (o.rowAt 0 rfl).2.2; omega
        simp (config := {maxSteps := 3000000}) (disch := first | omega | (simp only [L3] <;> omega)) only [Sall,evalOp,init,binA_s,binE,binI,unE,convE,okNil,builtE,gv,TD.isAgg,resV,↓reduceIte,Nat.reduceEqDiff,reduceCtorEq,Nat.reduceAdd,Nat.reduceMul,Nat.reduceLeDiff,quietOp,blindOp,Int.reduceEq,Int.reduceLT,Int.reduceLE,Nat.reduceLT,tiA,tiXA, f0, f1, f2, g0, g1, hone, npi2, w64, zz0]
        obtain ⟨B2, b2, o2⟩ := id d2.ex
        refine o2.appW 2 rfl hv2 rfl (by decide) (by omega) ?_
        intro v3 H3 n3 o3
        have o3 : Ow B2 H3 [.row pi ⟨55, true, [.int .i64 q, u]⟩, .row (pi + 1) ⟨55, true, [.int .i64 0, .slice none 0 0]⟩, .sl 1 33 v3 (0 + ws.length) ws] := o3
        have hv3 := o3.one 2 rfl
        have zi : zeros 4 [.int .i64 0] = [.int .i64 0, .int .i64 0, .int .i64 0, .int .i64 0] := rfl
        have zs1 : zeros 1 [.slice none 0 0] = [.slice none 0 0] := rfl
        have sp0 : splice ([.int .i64 0, .int .i64 0, .int .i64 0, .int .i64 0] : List Value) 0 [.int .i64 0] = [.int .i64 0, .int .i64 0, .int .i64 0, .int .i64 0] := rfl
        have sp1 : splice ([.int .i64 0, .int .i64 0, .int .i64 0, .int .i64 0] : List Value) 1 [.int .i64 1] = [.int .i64 0, .int .i64 1, .int .i64 0, .int .i64 0] := rfl
        have sp2 : splice ([.int .i64 0, .int .i64 1, .int .i64 0, .int .i64 0] : List Value) 2 [.int .i64 2] = [.int .i64 0, .int .i64 1, .int .i64 2, .int .i64 0] := rfl
        have sp3 : splice ([.int .i64 0, .int .i64 1, .int .i64 2, .int .i64 0] : List Value) 3 [.int .i64 2] = [.int .i64 0, .int .i64 1, .int .i64 2, .int .i64 2] := rfl
        simp (config := {maxSteps := 3000000}) (disch := first | omega | (simp only [L3] <;> omega)) only [Sall,evalOp,init,binA_s,binE,binI,unE,convE,okNil,builtE,gv,TD.isAgg,resV,↓reduceIte,Nat.reduceEqDiff,reduceCtorEq,Nat.reduceAdd,Nat.reduceMul,Nat.reduceLeDiff,quietOp,blindOp,Int.reduceEq,Int.reduceLT,Int.reduceLE,Nat.reduceLT,tiA,tiXA, hv3, zi, zs1, sp0, sp1, sp2, sp3, slCells]
        have o4 := o3.pushSl (k := 1) (n := 4) (ty := 2) (vs := ints [0, 1, 2, 2]) rfl
        refine (o4.tmp ⟨33, true, [.slice (some ⟨H3.next, 0, some 1⟩) 4 4]⟩).app 2 rfl rfl (by omega) rfl (by omega) (by decide) (by omega) ?_
        intro v5 H5 n5 o5
        have hv5 := o5.one 2 rfl
        have h0 := (o5.rowAt 0 rfl).1
        have h1 := (o5.rowAt 1 rfl).1
        simp (config := {maxSteps := 3000000}) (disch := first | omega | (simp only [L3] <;> omega)) only [Sall,evalOp,init,binA_s,binE,binI,unE,convE,okNil,builtE,gv,TD.isAgg,resV,↓reduceIte,Nat.reduceEqDiff,reduceCtorEq,Nat.reduceAdd,Nat.reduceMul,Nat.reduceLeDiff,quietOp,blindOp,Int.reduceEq,Int.reduceLT,Int.reduceLE,Nat.reduceLT,tiA,tiXA, hv3, hv5, h0, h1, npp, npp2]
        have d6 : Dq cv nb si H ((H5.setCells pi [.int .i64 q, v5]).setCells (pi + 1) [.int .i64 q, v5]) [.row pi ⟨55, true, [.int .i64 q, v5]⟩, .row (pi + 1) ⟨55, true, [.int .i64 q, v5]⟩, .sl 1 33 v5 (0 + ws.length + 1) (ws ++ [.slice (some ⟨H3.next, 0, some 1⟩) 4 4]), .sl 1 2 (.slice (some ⟨H3.next, 0, some 1⟩) 4 4) 4 (ints [0, 1, 2, 2])] := ⟨⟨B2, b2, (o5.putRow 0 rfl (cs' := [.int .i64 q, v5])).putRow 1 rfl (cs' := [.int .i64 q, v5])⟩⟩
        refine ⟨q, v5, ll ++ [[0, 1, 2, 2]], rfl, ⟨by omega, by omega⟩, ⟨by simp; omega, fun r hr => ?_⟩, Dq.left (L := []) d6, fun H2 h2 => ?_⟩
        · rcases List.mem_append.1 hr with h | h
          · exact hll.2 r h
          · rw [List.mem_singleton] at h; rw [h]; decide
        · obtain ⟨S1, p1⟩ := d6.laterP hsi 2 rfl H2 fun i r hl => h2 i r (by omega)
          obtain ⟨S2, p2⟩ := d6.laterP hsi 3 rfl H2 fun i r hl => h2 i r (by omega)
          exact RowsOk.rd2 ((hv H2 fun i r hl hi hr => h2 i r hl hi (d6.old hsc i r hi hr)).1.snoc (sl_rd p2)) p1
      · have f2 : ((c : Int) == 2) = false := beq_eq_false_iff_ne.2 c2
        simp (config := {maxSteps := 3000000}) (disch := first | omega | (simp only [L3] <;> omega)) only [Sall,evalOp,init,binA_s,binE,binI,unE,convE,okNil,builtE,gv,TD.isAgg,resV,↓reduceIte,Nat.reduceEqDiff,reduceCtorEq,Nat.reduceAdd,Nat.reduceMul,Nat.reduceLeDiff,quietOp,blindOp,Int.reduceEq,Int.reduceLT,Int.reduceLE,Nat.reduceLT,tiA,tiXA, f0, f1, f2, g0, g1, hone, npp, npp2]
        have d3 := d1.putRow 1 rfl (cs' := [.int .i64 q, u])
        exact ⟨q, u, ll, rfl, ⟨by omega, by omega⟩, ⟨by have := hll.1; omega, hll.2⟩, Dq.left (L := []) d3, fun H2 h2 => (hv H2 fun i r hl hi hr => h2 i r hl hi (d3.old hsc i r hi hr)).rd2⟩
end Go.Proofs.YtpienljnoaendaaGreat.A
end

section
set_option maxRecDepth 100000
set_option maxHeartbeats 2000000
namespace Go.Proofs.YtpienljnoaendaaGreat.A
open Go Go.Abs Go.RowKit
theorem Dq.lowEq {cv : Value} {nb si : Nat} {H H' : AH} {L : List Th} (h : Dq cv nb si H H' L) {i : Nat} (hi : i < H.next) (hs : i ≠ si) : H'.row i = H.row i := by
  obtain ⟨B, b, o⟩ := h.ex
  rw [o.low i (by rw [b.next]; exact hi), b.row i hs]
theorem Dq.shift {cv : Value} {nb si : Nat} {H H' : AH} {L : List Th} (h : Dq cv nb si H H' L) {i : Nat} (hi : i < H.next) (cs : List Value) : ∃ B, B.next = H.next ∧ Ow B (H'.setCells i cs) L := by
  obtain ⟨B, b, o⟩ := h.ex
  have hb := b.next
  refine ⟨⟨B.next, fun j => (H'.setCells i cs).row j⟩, hb, o.sc.set _ _, o.next, fun j hj => rfl, ?_⟩
  obtain ⟨w, hw⟩ := o.own
  refine ⟨w, fun k p hk => p.loc H' _ _ _ (fun j hj => hj) (fun j r hj hr => ?_) (hw k p hk)⟩
  have : B.next ≤ j := hj.1
  rw [AH.setCells_row, if_neg (by omega)]; exact hr
theorem Rs.later {z n : Nat} {H H' : AH} {v : Value} {l : List Int} (h : Rs z H v n l) (hs : ∀ i r, H.row i = some r → H'.row i = some r) : Rs z H' v n l := h.same hs
end Go.Proofs.YtpienljnoaendaaGreat.A
end

section
set_option maxRecDepth 100000
set_option maxHeartbeats 2000000
namespace Go.Proofs.YtpienljnoaendaaGreat.A
open Go Go.Abs Go.RowKit
def WithE (H : AH) (p : Int × Value) (H' : AH) : Prop :=
  ∃ ll : List (List Int), (-1 ≤ p.1 ∧ p.1 ≤ 17) ∧ (ll.length ≤ 65 ∧ ∀ r ∈ ll, r.length ≤ 64) ∧ (∀ H2, (∀ i r, H.next ≤ i → H'.row i = some r → H2.row i = some r) → Rd2 1 H2 p.2 ll) ∧ Ow H H' []
theorem codeUp {cv : Value} {nb : Nat} {H H' : AH} (h : CodeOk H cv nb) (k : ∀ i r, H.row i = some r → H'.row i = some r) : CodeOk H' cv nb := by
  rcases h with h | ⟨i, o, u, c, r, q1, q2, q3⟩
  · exact .inl h
  · exact .inr ⟨i, o, u, c, r, q1, k _ _ q2, q3⟩
theorem ACalls.ex3 {P : Program} {f : FuncId} {args : List Value} {H : AH} {α β γ : Type} {g : α → β → γ → Value} {X : α → β → γ → AH → Prop} {R : Value → AH → Prop} (h : ACalls P f args H (fun v H' => ∃ a b c, v = g a b c ∧ X a b c H')) (k : ∀ a b c H', X a b c H' → R (g a b c) H') : ACalls P f args H R :=
  h.mono fun v H' hh => by obtain ⟨a, b, c, rfl, hx⟩ := hh; exact k _ _ _ _ hx
theorem l06Draw_c (cv : Value) (nb : Nat) (H : AH) (hnb : nb ≤ 4611686018427387904) (hc0 : CodeOk H cv nb) :
    ACalls Tryz.prog 141 [cv] H (fun r H' => ∃ p : Int × Value, r = .agg #[.int .i64 p.1, p.2] ∧ WithE H p H') := by
  refine ACalls.wf (by kernel_rfl) fun hsc0 => acalls_of_awp [.cell 2 55] Tryz.func141 (by kernel_rfl) rfl rfl (Nat.le_of_ble_eq_true rfl) (by kernel_rfl) ?_
  have o1 := (Ow.refl hsc0).push ⟨55, true, [.int .i64 0, .slice none 0 0]⟩
  have hone := hc0.one
  have b0 := (o1.rowAt 0 rfl)
  try simp (disch := first | omega | (simp only [L3] <;> omega)) only [Sall,evalOp,init,binA_s,binE,binI,unE,convE,okNil,builtE,gv,TD.isAgg,resV,↓reduceIte,Nat.reduceEqDiff,reduceCtorEq,Nat.reduceAdd,Nat.reduceMul,Nat.reduceLeDiff,quietOp,blindOp,Int.reduceEq,Int.reduceLT,Int.reduceLE,Nat.reduceLT,tiA,tiXA, hone]
  generalize H.push ⟨55, true, [.int .i64 0, .slice none 0 0]⟩ = H1 at o1 b0 ⊢
  have hc1 : CodeOk H1 cv nb := codeUp hc0 (o1.old hsc0)
  refine (l01From_c cv nb H1 hnb hc1).fin ?_
  rintro H2 ⟨up2, hsc, hsi, hs⟩
  have hc := CodeX.of hc1 o1.sc up2
  refine Holds.mp ?_
  try simp (disch := first | omega | (simp only [L3] <;> omega)) only [Sall,evalOp,init,binA_s,binE,binI,unE,convE,okNil,builtE,gv,TD.isAgg,resV,↓reduceIte,Nat.reduceEqDiff,reduceCtorEq,Nat.reduceAdd,Nat.reduceMul,Nat.reduceLeDiff,quietOp,blindOp,Int.reduceEq,Int.reduceLT,Int.reduceLE,Nat.reduceLT,tiA,tiXA, true_and]
  refine ACalls.ex4 (g := fun (q : Int) (u : Value) (_ : List Value) (_ : List (List Int)) => .agg #[.int .i64 q, u]) (l06DrawOf_c cv nb H1.next H2 hnb hs hc) ?_
  rintro q u ws ll H3 ⟨hq, hll, d1⟩
  have hv := d1.seesX hsi 0 rfl
  have hu := (hv H3 fun _ _ _ _ h => h).rd2.one
  refine Holds.mp ?_
  try simp (disch := first | omega | (simp only [L3] <;> omega)) only [Sall,evalOp,init,binA_s,binE,binI,unE,convE,okNil,builtE,gv,TD.isAgg,resV,↓reduceIte,Nat.reduceEqDiff,reduceCtorEq,Nat.reduceAdd,Nat.reduceMul,Nat.reduceLeDiff,quietOp,blindOp,Int.reduceEq,Int.reduceLT,Int.reduceLE,Nat.reduceLT,tiA,tiXA, hu]
  refine ACalls.ex3 (g := fun (q : Int) (u : Value) (_ : List (List Int)) => .agg #[.int .i64 q, u]) (l06Bad_c cv nb H1.next H2.next q u ws ll H3 hq hll d1.le hv hnb (d1.src hsi) (d1.code hc hsc)) ?_
  rintro q' u' ll' H4 ⟨hq', hll', d2, hr⟩
  have d3 := d1.bind hsi d2
  have hu' := (hr H4 fun _ _ _ _ h => h).one
  have g0 : H4.row H.next = some ⟨55, true, [.int .i64 0, .slice none 0 0]⟩ := by
    rw [d3.lowEq (by omega) (by omega), up2.row _ (by omega)]; exact b0.1
  refine Holds.mp ?_
  try simp (disch := first | omega | (simp only [L3] <;> omega)) only [Sall,evalOp,init,binA_s,binE,binI,unE,convE,okNil,builtE,gv,TD.isAgg,resV,↓reduceIte,Nat.reduceEqDiff,reduceCtorEq,Nat.reduceAdd,Nat.reduceMul,Nat.reduceLeDiff,quietOp,blindOp,Int.reduceEq,Int.reduceLT,Int.reduceLE,Nat.reduceLT,tiA,tiXA, hu', g0]
  have hle := d3.le
  refine ⟨(q', u'), rfl, ll', hq', hll', fun Hx hx => hr Hx fun i r hl hi hr => hx i r (by omega) ?_, Ow.of_up ⟨by show H.next ≤ H4.next; omega, fun i hi => ?_⟩ (d3.sc.set _ _)⟩
  · rw [AH.setCells_row, if_neg (by omega)]; exact hr
  · rw [AH.setCells_row, if_neg (by omega), d3.lowEq (by omega) (by omega), up2.row _ (by omega), o1.low _ hi]
end Go.Proofs.YtpienljnoaendaaGreat.A
end

section
set_option maxRecDepth 100000
set_option maxHeartbeats 2000000
namespace Go.Proofs.YtpienljnoaendaaGreat.A
open Go Go.Abs Go.RowKit
theorem drawIsWhist_c (cv : Value) (nb : Nat) (H : AH) (hnb : nb ≤ 4611686018427387904) (hc0 : CodeOk H cv nb) :
    ACalls Tryz.prog 32 [cv] H (fun r H' => ∃ p : Int × Value, r = .agg #[.int .i64 p.1, p.2] ∧ WithE H p H') := by
  refine ACalls.wf (by kernel_rfl) fun hsc0 => acalls_of_awp [.cell 2 55] Tryz.func32 (by kernel_rfl) rfl rfl (Nat.le_of_ble_eq_true rfl) (by kernel_rfl) ?_
  have o1 := (Ow.refl hsc0).push ⟨55, true, [.int .i64 0, .slice none 0 0]⟩
  have hone := hc0.one
  try simp (disch := first | omega | (simp only [L3] <;> omega)) only [Sall,evalOp,init,binA_s,binE,binI,unE,convE,okNil,builtE,gv,TD.isAgg,resV,↓reduceIte,Nat.reduceEqDiff,reduceCtorEq,Nat.reduceAdd,Nat.reduceMul,Nat.reduceLeDiff,quietOp,blindOp,Int.reduceEq,Int.reduceLT,Int.reduceLE,Nat.reduceLT,tiA,tiXA, hone]
  generalize H.push ⟨55, true, [.int .i64 0, .slice none 0 0]⟩ = H1 at o1 ⊢
  have hc1 : CodeOk H1 cv nb := codeUp hc0 (o1.old hsc0)
  refine ACalls.ex (g := fun p : Int × Value => .agg #[.int .i64 p.1, p.2]) (l06Draw_c cv nb H1 hnb hc1) ?_
  rintro ⟨q, u⟩ H2 ⟨ll, hq, hll, hR, o2⟩
  dsimp only at hq hR
  have hu := (hR H2 fun i r _ h => h).one
  have b0 := o1.rowAt 0 rfl
  have g0 : H2.row H.next = some ⟨55, true, [.int .i64 0, .slice none 0 0]⟩ := by
    rw [o2.low _ b0.2.2]; exact b0.1
  have n2 := o2.next
  refine Holds.mp ?_
  try simp (disch := first | omega | (simp only [L3] <;> omega)) only [Sall,evalOp,init,binA_s,binE,binI,unE,convE,okNil,builtE,gv,TD.isAgg,resV,↓reduceIte,Nat.reduceEqDiff,reduceCtorEq,Nat.reduceAdd,Nat.reduceMul,Nat.reduceLeDiff,quietOp,blindOp,Int.reduceEq,Int.reduceLT,Int.reduceLE,Nat.reduceLT,tiA,tiXA, hu, g0]
  refine ⟨(q, u), rfl, ll, hq, hll, fun Hx hx => hR Hx fun i r hi hr => hx i r (by omega) (by rw [AH.setCells_row, if_neg (by omega)]; exact hr), Ow.of_up ⟨by show H.next ≤ H2.next; omega, fun i hi => ?_⟩ (o2.sc.set _ _)⟩
  rw [AH.setCells_row, if_neg (by omega), o2.low _ (by omega), o1.low _ hi]
theorem drawFirstBase_c (cv : Value) (nb : Nat) (H : AH) (hnb : nb ≤ 4611686018427387904) (hc0 : CodeOk H cv nb) :
    ACalls Tryz.prog 47 [cv] H (fun r H' => ∃ n : Nat, r = .int .i64 n ∧ 4 ≤ n ∧ n ≤ 12 ∧ Ow H H' []) := by
  refine ACalls.wf (by kernel_rfl) fun hsc0 => acalls_of_awp [.tmp 2] Tryz.func47 (by kernel_rfl) rfl rfl (Nat.le_of_ble_eq_true rfl) (by kernel_rfl) ?_
  have hone := hc0.one
  have hb : ∀ (t : T) (H : AH), evalOp Tryz.prog t H (.buildSlice 33 6 #[(0, .const (.int .i64 4)), (1, .const (.int .i64 5)), (2, .const (.int .i64 8)), (3, .const (.int .i64 9)), (4, .const (.int .i64 6)), (5, .const (.int .i64 12))]) = .need (6 ≤ 16777216 ∧ 6 * 1 ≤ 16777216) (.val (.slice (some ⟨H.next, 0, some 1⟩) 6 6) (H.push ⟨2, true, ints [4, 5, 8, 9, 6, 12]⟩)) := fun t H => by kernel_rfl
  generalize (Op.buildSlice 33 6 #[(0, .const (.int .i64 4)), (1, .const (.int .i64 5)), (2, .const (.int .i64 8)), (3, .const (.int .i64 9)), (4, .const (.int .i64 6)), (5, .const (.int .i64 12))]) = bop at hb ⊢
  simp (config := {maxSteps := 3000000}) (disch := first | omega | (simp only [L3] <;> omega)) only [Sall,evalOp,init,binA_s,binE,binI,unE,convE,okNil,builtE,gv,TD.isAgg,resV,↓reduceIte,Nat.reduceEqDiff,reduceCtorEq,Nat.reduceAdd,Nat.reduceMul,Nat.reduceLeDiff,quietOp,blindOp,Int.reduceEq,Int.reduceLT,Int.reduceLE,Nat.reduceLT,tiA,tiXA, ↓hb, hone]
  refine (l01From_c cv nb H hnb hc0).fin ?_
  rintro H1 ⟨up1, sc1, n1, s1⟩
  have hc := CodeX.of hc0 hsc0 up1
  have d0 := Dq.start s1 sc1
  refine Holds.mp ?_
  simp (config := {maxSteps := 3000000}) (disch := first | omega | (simp only [L3] <;> omega)) only [Sall,evalOp,init,binA_s,binE,binI,unE,convE,okNil,builtE,gv,TD.isAgg,resV,↓reduceIte,Nat.reduceEqDiff,reduceCtorEq,Nat.reduceAdd,Nat.reduceMul,Nat.reduceLeDiff,quietOp,blindOp,Int.reduceEq,Int.reduceLT,Int.reduceLE,Nat.reduceLT,tiA,tiXA, ↓hb]
  refine (pickL [4, 5, 8, 9, 6, 12] 6 rfl (by omega) (by omega) d0 n1 hc sc1 hnb).ex ?_
  rintro x H3 ⟨hx, d1⟩
  have hx2 : 4 ≤ x ∧ x ≤ 12 := by
    simp only [List.mem_cons, List.not_mem_nil, or_false] at hx
    omega
  obtain ⟨n, rfl⟩ : ∃ n : Nat, x = n := ⟨x.toNat, by omega⟩
  refine Holds.mp ?_
  try simp (disch := first | omega | (simp only [L3] <;> omega)) only [Sall,evalOp,init,binA_s,binE,binI,unE,convE,okNil,builtE,gv,TD.isAgg,resV,↓reduceIte,Nat.reduceEqDiff,reduceCtorEq,Nat.reduceAdd,Nat.reduceMul,Nat.reduceLeDiff,quietOp,blindOp,Int.reduceEq,Int.reduceLT,Int.reduceLE,Nat.reduceLT,tiA,tiXA, true_and]
  exact ⟨n, rfl, by omega, by omega, Dr.fin ⟨d1.ex⟩ up1⟩
theorem drawMadeFrom_c (cv : Value) (nb : Nat) (H : AH) (hnb : nb ≤ 4611686018427387904) (hc0 : CodeOk H cv nb) :
    ACalls Tryz.prog 40 [cv] H (fun r H' => ∃ (n : Nat) (w : Value) (y : List Int), r = .tuple #[.int .i64 n, w] ∧ n ≤ 17 ∧ y.length ≤ 16 ∧ Ow H H' [.cap 1 2 w y.length (ints y)]) := by
  refine ACalls.wf (by kernel_rfl) fun hsc0 => acalls_of_awp [.tmp 2, .tmp 3] Tryz.func40 (by kernel_rfl) rfl rfl (Nat.le_of_ble_eq_true rfl) (by kernel_rfl) ?_
  have hone := hc0.one
  have hb : ∀ (t : T) (H : AH), evalOp Tryz.prog t H (.buildSlice 33 7 #[(0, .const (.int .i64 4)), (1, .const (.int .i64 5)), (2, .const (.int .i64 8)), (3, .const (.int .i64 9)), (4, .const (.int .i64 12)), (5, .const (.int .i64 16)), (6, .const (.int .i64 13))]) = .need (7 ≤ 16777216 ∧ 7 * 1 ≤ 16777216) (.val (.slice (some ⟨H.next, 0, some 1⟩) 7 7) (H.push ⟨2, true, ints [4, 5, 8, 9, 12, 16, 13]⟩)) := fun t H => by kernel_rfl
  generalize (Op.buildSlice 33 7 #[(0, .const (.int .i64 4)), (1, .const (.int .i64 5)), (2, .const (.int .i64 8)), (3, .const (.int .i64 9)), (4, .const (.int .i64 12)), (5, .const (.int .i64 16)), (6, .const (.int .i64 13))]) = bop at hb ⊢
  simp (config := {maxSteps := 3000000}) (disch := first | omega | (simp only [L3] <;> omega)) only [Sall,evalOp,init,binA_s,binE,binI,unE,convE,okNil,builtE,gv,TD.isAgg,resV,↓reduceIte,Nat.reduceEqDiff,reduceCtorEq,Nat.reduceAdd,Nat.reduceMul,Nat.reduceLeDiff,quietOp,blindOp,Int.reduceEq,Int.reduceLT,Int.reduceLE,Nat.reduceLT,tiA,tiXA, ↓hb, hone]
  refine (l01From_c cv nb H hnb hc0).fin ?_
  rintro H1 ⟨up1, sc1, n1, s1⟩
  have hc := CodeX.of hc0 hsc0 up1
  have d0 := Dq.start s1 sc1
  refine Holds.mp ?_
  simp (config := {maxSteps := 3000000}) (disch := first | omega | (simp only [L3] <;> omega)) only [Sall,evalOp,init,binA_s,binE,binI,unE,convE,okNil,builtE,gv,TD.isAgg,resV,↓reduceIte,Nat.reduceEqDiff,reduceCtorEq,Nat.reduceAdd,Nat.reduceMul,Nat.reduceLeDiff,quietOp,blindOp,Int.reduceEq,Int.reduceLT,Int.reduceLE,Nat.reduceLT,tiA,tiXA, ↓hb]
  refine (pickL [4, 5, 8, 9, 12, 16, 13] 7 rfl (by omega) (by omega) d0 n1 hc sc1 hnb).ex ?_
  rintro x H3 ⟨hx, d1⟩
  have hx2 : 4 ≤ x ∧ x ≤ 16 := by
    simp only [List.mem_cons, List.not_mem_nil, or_false] at hx
    omega
  obtain ⟨n, rfl⟩ : ∃ n : Nat, x = n := ⟨x.toNat, by omega⟩
  have hn : 4 ≤ n ∧ n ≤ 16 := by omega
  clear hx hx2
  refine Holds.mp ?_
  try simp (disch := first | omega | (simp only [L3] <;> omega)) only [Sall,evalOp,init,binA_s,binE,binI,unE,convE,okNil,builtE,gv,TD.isAgg,resV,↓reduceIte,Nat.reduceEqDiff,reduceCtorEq,Nat.reduceAdd,Nat.reduceMul,Nat.reduceLeDiff,quietOp,blindOp,Int.reduceEq,Int.reduceLT,Int.reduceLE,Nat.reduceLT,tiA,tiXA, true_and]
  refine (l01DrawOrder_c cv nb H.next n H3 (by omega) hnb (d1.src n1) (d1.code hc sc1)).mono ?_
  rintro w H4 ⟨y0, B4, k4, o4, hp⟩
  rw [Int.toNat_natCast] at o4 hp
  have hyl := hp.len
  have d2 := (d1.call n1 k4 o4).toCap 0 rfl
  have em : Int.tmod (n : Int) 4 = ((n % 4 : Nat) : Int) := rfl
  obtain ⟨b, eb⟩ : ∃ b, b = n - n % 4 := ⟨_, rfl⟩
  have eb2 : (n : Int) - ((n % 4 : Nat) : Int) = (b : Int) := by omega
  have hw := o4.one 0 rfl
  refine Holds.mp ?_
  try simp (disch := first | omega | (simp only [L3] <;> omega)) only [Sall,evalOp,init,binA_s,binE,binI,unE,convE,okNil,builtE,gv,TD.isAgg,resV,↓reduceIte,Nat.reduceEqDiff,reduceCtorEq,Nat.reduceAdd,Nat.reduceMul,Nat.reduceLeDiff,quietOp,blindOp,Int.reduceEq,Int.reduceLT,Int.reduceLE,Nat.reduceLT,tiA,tiXA, em, eb2, hw, w64]
  obtain ⟨w2, hcut, d3⟩ := d2.cut 0 rfl (hi := some (b : Int)) (b := b) rfl (by omega)
  refine hcut _ _ _ _ rfl ?_
  rw [Nat.mul_one] at d3
  have hyb : (y0.take b).length = b := by rw [List.length_take]; omega
  generalize y0.take b = y at d3 hyb
  have d3 : Dq cv nb H.next H1 H4 [.cap 1 2 w2 b (ints y)] := d3
  have hw2 := d3.capOne 0 rfl
  try simp (disch := first | omega | (simp only [L3] <;> omega)) only [Sall,evalOp,init,binA_s,binE,binI,unE,convE,okNil,builtE,gv,TD.isAgg,resV,↓reduceIte,Nat.reduceEqDiff,reduceCtorEq,Nat.reduceAdd,Nat.reduceMul,Nat.reduceLeDiff,quietOp,blindOp,Int.reduceEq,Int.reduceLT,Int.reduceLE,Nat.reduceLT,tiA,tiXA, hw2]
  refine (nextD 16 d3 n1 hc sc1 hnb (by omega)).ex ?_
  rintro z H5 ⟨hz, d4⟩
  refine Holds.mp ?_
  by_cases c0 : (z : Int) = 0
  · have f0 : ((z : Int) == 0) = true := beq_iff_eq.2 c0
    have zz4 : zeros 4 [.int .i64 0] = [.int .i64 0, .int .i64 0, .int .i64 0, .int .i64 0] := rfl
    simp (config := {maxSteps := 3000000}) (disch := first | omega | (simp only [L3] <;> omega)) only [Sall,evalOp,init,binA_s,binE,binI,unE,convE,okNil,builtE,gv,TD.isAgg,resV,↓reduceIte,Nat.reduceEqDiff,reduceCtorEq,Nat.reduceAdd,Nat.reduceMul,Nat.reduceLeDiff,quietOp,blindOp,Int.reduceEq,Int.reduceLT,Int.reduceLE,Nat.reduceLT,tiA,tiXA, f0, zz4, w64]
    refine (pickL [6, 17, 3, (n : Int) - 1] 4 rfl (by omega) (by omega) d4 n1 hc sc1 hnb).ex ?_
    rintro x H6 ⟨hx, d5⟩
    have hx2 : 0 ≤ x ∧ x ≤ 17 := by
      simp only [List.mem_cons, List.not_mem_nil, or_false] at hx
      omega
    obtain ⟨m, rfl⟩ : ∃ m : Nat, x = m := ⟨x.toNat, by omega⟩
    refine Holds.mp ?_
    try simp (disch := first | omega | (simp only [L3] <;> omega)) only [Sall,evalOp,init,binA_s,binE,binI,unE,convE,okNil,builtE,gv,TD.isAgg,resV,↓reduceIte,Nat.reduceEqDiff,reduceCtorEq,Nat.reduceAdd,Nat.reduceMul,Nat.reduceLeDiff,quietOp,blindOp,Int.reduceEq,Int.reduceLT,Int.reduceLE,Nat.reduceLT,tiA,tiXA, hw2]
    refine ⟨m, w2, y, rfl, by omega, by omega, ?_⟩
    rw [hyb]
    exact Dr.fin ⟨d5.ex⟩ up1
  have f0 : ((z : Int) == 0) = false := beq_eq_false_iff_ne.2 c0
  by_cases c1 : (z : Int) = 1
  · have f1 : ((z : Int) == 1) = true := beq_iff_eq.2 c1
    have zz3 : zeros 3 [.int .i64 0] = [.int .i64 0, .int .i64 0, .int .i64 0] := rfl
    obtain ⟨B4', hB4, o4'⟩ := id d4.ex
    obtain ⟨wi, rest, _, _, ew, rw4⟩ := o4'.capGet 0 rfl (by omega)
    have g1 : (ints y ++ rest)[1]? = some (.int .i64 (y.getD 1 0)) := by
      rw [List.getElem?_append_left (by rw [ints_length]; omega)]
      exact ints_get? y 1 (by omega)
    subst ew
    have t1 : Int.toNat 1 = 1 := rfl
    have t0 : Int.toNat 0 = 0 := rfl
    simp (config := {maxSteps := 3000000}) (disch := first | omega | (simp only [L3] <;> omega)) only [Sall,evalOp,init,binA_s,binE,binI,unE,convE,okNil,builtE,gv,TD.isAgg,resV,↓reduceIte,Nat.reduceEqDiff,reduceCtorEq,Nat.reduceAdd,Nat.reduceMul,Nat.reduceLeDiff,quietOp,blindOp,Int.reduceEq,Int.reduceLT,Int.reduceLE,Nat.reduceLT,tiA,tiXA, f0, f1, zz3, rw4, t1, g1]
    (repeat refine And.intro (by omega) ?_)
    refine (pickL [-1, (n : Int), y.getD 1 0] 3 rfl (by omega) (by omega) d4 n1 hc sc1 hnb).ex ?_
    rintro x H6 ⟨hx, d5⟩
    obtain ⟨B6, hB6, o6⟩ := id d5.ex
    obtain ⟨wi2, rest2, _, _, ew2, rw6⟩ := o6.capGet 0 rfl (by omega)
    cases ew2
    have hll : (ints y ++ rest2).length = b + rest2.length := by rw [List.length_append, ints_length, hyb]
    refine Holds.mp ?_
    try simp (disch := first | omega | (simp only [L3] <;> omega)) only [Sall,evalOp,init,binA_s,binE,binI,unE,convE,okNil,builtE,gv,TD.isAgg,resV,↓reduceIte,Nat.reduceEqDiff,reduceCtorEq,Nat.reduceAdd,Nat.reduceMul,Nat.reduceLeDiff,quietOp,blindOp,Int.reduceEq,Int.reduceLT,Int.reduceLE,Nat.reduceLT,tiA,tiXA, rw6, hll, t0]
    have es : (ints y ++ rest2).set 0 (.int .i64 x) = ints (y.set 0 x) ++ rest2 := by
      rw [List.set_append_left _ _ (by rw [ints_length]; omega), ints_set]
    have hys : (y.set 0 x).length = b := by rw [List.length_set, hyb]
    refine ⟨by omega, by omega, n, _, y.set 0 x, rfl, by omega, by omega, ?_⟩
    rw [es, hys]
    have o7 := o6.capPut 0 rfl rw6 (vs' := ints (y.set 0 x)) (by rw [ints_length, ints_length, List.length_set])
    exact Dr.fin ⟨⟨B6, hB6, o7⟩⟩ up1
  have f1 : ((z : Int) == 1) = false := beq_eq_false_iff_ne.2 c1
  by_cases c2 : (z : Int) = 2
  · have f2 : ((z : Int) == 2) = true := beq_iff_eq.2 c2
    have lw := (d4.capRs 0 rfl).rd.len
    have e1 : (b : Int) - 1 = ((b - 1 : Nat) : Int) := by omega
    obtain ⟨w3, hcut3, d5⟩ := d4.cut 0 rfl (hi := some ((b - 1 : Nat) : Int)) (b := b - 1) rfl (by omega)
    rw [Nat.mul_one] at d5
    have hyb3 : (y.take (b - 1)).length = b - 1 := by rw [List.length_take]; omega
    try simp (disch := first | omega | (simp only [L3] <;> omega)) only [Sall,evalOp,init,binA_s,binE,binI,unE,convE,okNil,builtE,gv,TD.isAgg,resV,↓reduceIte,Nat.reduceEqDiff,reduceCtorEq,Nat.reduceAdd,Nat.reduceMul,Nat.reduceLeDiff,quietOp,blindOp,Int.reduceEq,Int.reduceLT,Int.reduceLE,Nat.reduceLT,tiA,tiXA, f0, f1, f2, hw2, builtE, lw, e1, w64]
    refine hcut3 _ _ _ _ rfl ?_
    have hw3 := d5.capOne 0 rfl
    try simp (disch := first | omega | (simp only [L3] <;> omega)) only [Sall,evalOp,init,binA_s,binE,binI,unE,convE,okNil,builtE,gv,TD.isAgg,resV,↓reduceIte,Nat.reduceEqDiff,reduceCtorEq,Nat.reduceAdd,Nat.reduceMul,Nat.reduceLeDiff,quietOp,blindOp,Int.reduceEq,Int.reduceLT,Int.reduceLE,Nat.reduceLT,tiA,tiXA, hw3]
    refine ⟨n, w3, y.take (b - 1), rfl, by omega, by omega, ?_⟩
    rw [hyb3]
    exact Dr.fin ⟨d5.ex⟩ up1
  have f2 : ((z : Int) == 2) = false := beq_eq_false_iff_ne.2 c2
  try simp (disch := first | omega | (simp only [L3] <;> omega)) only [Sall,evalOp,init,binA_s,binE,binI,unE,convE,okNil,builtE,gv,TD.isAgg,resV,↓reduceIte,Nat.reduceEqDiff,reduceCtorEq,Nat.reduceAdd,Nat.reduceMul,Nat.reduceLeDiff,quietOp,blindOp,Int.reduceEq,Int.reduceLT,Int.reduceLE,Nat.reduceLT,tiA,tiXA, f0, f1, f2, hw2]
  refine ⟨n, w2, y, rfl, by omega, by omega, ?_⟩
  rw [hyb]
  exact Dr.fin ⟨d4.ex⟩ up1
theorem drawRenum_c (cv : Value) (nb : Nat) (H : AH) (hnb : nb ≤ 4611686018427387904) (hc0 : CodeOk H cv nb) :
    ACalls Tryz.prog 44 [cv] H (fun r H' => ∃ (p : Int × Value) (w : Value) (y : List Int), r = .tuple #[.agg #[.int .i64 p.1, p.2], w] ∧ y.length ≤ 16 ∧ (∀ H2, (∀ i r, H.next ≤ i → H'.row i = some r → H2.row i = some r) → Rd 1 H2 w y.length y) ∧ WithE H p H') := by
  refine ACalls.wf (by kernel_rfl) fun hsc0 => acalls_of_awp [.cell 2 55, .tmp 3] Tryz.func44 (by kernel_rfl) rfl rfl (Nat.le_of_ble_eq_true rfl) (by kernel_rfl) ?_
  have o1 := (Ow.refl hsc0).push ⟨55, true, [.int .i64 0, .slice none 0 0]⟩
  have hone := hc0.one
  have b0 := (o1.rowAt 0 rfl)
  try simp (disch := first | omega | (simp only [L3] <;> omega)) only [Sall,evalOp,init,binA_s,binE,binI,unE,convE,okNil,builtE,gv,TD.isAgg,resV,↓reduceIte,Nat.reduceEqDiff,reduceCtorEq,Nat.reduceAdd,Nat.reduceMul,Nat.reduceLeDiff,quietOp,blindOp,Int.reduceEq,Int.reduceLT,Int.reduceLE,Nat.reduceLT,tiA,tiXA, hone]
  generalize H.push ⟨55, true, [.int .i64 0, .slice none 0 0]⟩ = H1 at o1 b0 ⊢
  have hc1 : CodeOk H1 cv nb := codeUp hc0 (o1.old hsc0)
  refine (l01From_c cv nb H1 hnb hc1).fin ?_
  rintro H2 ⟨up2, hsc, hsi, hs⟩
  have hc := CodeX.of hc1 o1.sc up2
  refine Holds.mp ?_
  try simp (disch := first | omega | (simp only [L3] <;> omega)) only [Sall,evalOp,init,binA_s,binE,binI,unE,convE,okNil,builtE,gv,TD.isAgg,resV,↓reduceIte,Nat.reduceEqDiff,reduceCtorEq,Nat.reduceAdd,Nat.reduceMul,Nat.reduceLeDiff,quietOp,blindOp,Int.reduceEq,Int.reduceLT,Int.reduceLE,Nat.reduceLT,tiA,tiXA, hone]
  refine (l06Draw_c cv nb H2 hnb hc.now).ex ?_
  rintro ⟨q, u⟩ H3 ⟨ll, hq, hll, hr, o3⟩
  dsimp only at hq hr
  have hu := (hr H3 fun _ _ _ h => h).one
  have d1 := ((((Dq.start hs hsc).calls o3).push ⟨55, true, [.int .i64 0, .slice none 0 0]⟩).putRow 0 rfl (cs' := [.int .i64 q, u]))
  have b3 := o3.next
  have hr4 : ∀ Hx, (∀ i r, H2.next ≤ i → ((H3.push ⟨55, true, [.int .i64 0, .slice none 0 0]⟩).setCells H3.next [.int .i64 q, u]).row i = some r → Hx.row i = some r) → Rd2 1 Hx u ll := fun Hx hx => hr Hx fun i r hi hr => hx i r hi (by
    have := o3.sc _ _ hr
    rw [AH.setCells_row, if_neg (by omega), AH.push_row, if_neg (by omega)]; exact hr)
  obtain ⟨ri, eri⟩ : ∃ ri, ri = H3.next := ⟨_, rfl⟩
  refine Holds.mp ?_
  try simp (disch := first | omega | (simp only [L3] <;> omega)) only [Sall,evalOp,init,binA_s,binE,binI,unE,convE,okNil,builtE,gv,TD.isAgg,resV,↓reduceIte,Nat.reduceEqDiff,reduceCtorEq,Nat.reduceAdd,Nat.reduceMul,Nat.reduceLeDiff,quietOp,blindOp,Int.reduceEq,Int.reduceLT,Int.reduceLE,Nat.reduceLT,tiA,tiXA, hu]
  have d1 : Dq cv nb H1.next H2 ((H3.push ⟨55, true, [.int .i64 0, .slice none 0 0]⟩).setCells H3.next [.int .i64 q, u]) [.row H3.next ⟨55, true, [.int .i64 q, u]⟩] := d1
  rw [← eri] at d1 hr4 ⊢
  generalize (H3.push ⟨55, true, [.int .i64 0, .slice none 0 0]⟩).setCells ri [.int .i64 q, u] = H4 at d1 hr4 ⊢
  have g1 := d1.rowAt 0 rfl
  have nri : ¬ ri = H1.next := by have := b3; omega
  have nh : ¬ H.next = H1.next := by omega
  try simp (disch := first | omega | (simp only [L3] <;> omega)) only [Sall,evalOp,init,binA_s,binE,binI,unE,convE,okNil,builtE,gv,TD.isAgg,resV,↓reduceIte,Nat.reduceEqDiff,reduceCtorEq,Nat.reduceAdd,Nat.reduceMul,Nat.reduceLeDiff,quietOp,blindOp,Int.reduceEq,Int.reduceLT,Int.reduceLE,Nat.reduceLT,tiA,tiXA, g1, hu]
  obtain ⟨m, em, hm⟩ : ∃ m : Nat, (if (16 : Int) < (if 1 > q then 1 else q) then 16 else if 1 > q then 1 else q) = (m : Int) ∧ 1 ≤ m ∧ m ≤ 16 := by
    refine ⟨(if (16 : Int) < (if 1 > q then 1 else q) then 16 else if 1 > q then 1 else q).toNat, ?_⟩
    by_cases c1 : 1 > q
    · rw [if_pos c1, if_neg (by omega)]; decide
    · rw [if_neg c1]
      by_cases c2 : (16 : Int) < q
      · rw [if_pos c2]; decide
      · rw [if_neg c2]; omega
  rw [em]
  have e0 := Dq.start (d1.src hsi) d1.sc
  have hsi4 : H1.next < H4.next := by have := d1.le; omega
  have hc4 := d1.code hc hsc
  have old4 : ∀ i, i < H.next → H4.row i = H.row i := fun i hi => by
    rw [d1.lowEq (by omega) (by omega), up2.row _ (by omega), o1.low _ hi]
  have g04 : H4.row H.next = some ⟨55, true, [.int .i64 0, .slice none 0 0]⟩ := by
    rw [d1.lowEq (by omega) (by omega), up2.row _ (by omega)]; exact b0.1
  have sc4 := d1.sc
  refine (l01DrawOrder_c cv nb H1.next m H4 (by omega) hnb (e0.src hsi4) (e0.code hc4 sc4)).mono ?_
  rintro w H5 ⟨y, B5, k5, o5, hp⟩
  rw [Int.toNat_natCast] at o5 hp
  have hyl := hp.len
  have e1 : Dq cv nb H1.next H4 H5 [.sl 1 2 w m (ints y)] := e0.call hsi4 k5 o5
  have hw := o5.one 0 rfl
  clear hc hs d1
  refine Holds.mp ?_
  try simp (disch := first | omega | (simp only [L3] <;> omega)) only [Sall,evalOp,init,binA_s,binE,binI,unE,convE,okNil,builtE,gv,TD.isAgg,resV,↓reduceIte,Nat.reduceEqDiff,reduceCtorEq,Nat.reduceAdd,Nat.reduceMul,Nat.reduceLeDiff,quietOp,blindOp,Int.reduceEq,Int.reduceLT,Int.reduceLE,Nat.reduceLT,tiA,tiXA, hw]
  refine (nextD 16 e1 hsi4 hc4 sc4 hnb (by omega)).ex ?_
  rintro z H6 ⟨hz, e2⟩
  refine Holds.mp ?_
  try simp (disch := first | omega | (simp only [L3] <;> omega)) only [Sall,evalOp,init,binA_s,binE,binI,unE,convE,okNil,builtE,gv,TD.isAgg,resV,↓reduceIte,Nat.reduceEqDiff,reduceCtorEq,Nat.reduceAdd,Nat.reduceMul,Nat.reduceLeDiff,quietOp,blindOp,Int.reduceEq,Int.reduceLT,Int.reduceLE,Nat.reduceLT,tiA,tiXA, true_and]
  refine condC_cut (fun t H' => ∃ y : List Int, y.length = m ∧ t 2 = .pointer (some ⟨H.next, 0, none⟩) ∧ t 5 = .pointer (some ⟨ri, 0, none⟩) ∧ t 6 = w ∧ Dq cv nb H1.next H4 H' [.sl 1 2 w m (ints y)]) (fun _ => ?_) (fun _ => ?_) ?_
  · refine ⟨y, hyl, ?_⟩
    try simp (disch := first | omega | (simp only [L3] <;> omega)) only [Sall,evalOp,init,binA_s,binE,binI,unE,convE,okNil,builtE,gv,TD.isAgg,resV,↓reduceIte,Nat.reduceEqDiff,reduceCtorEq,Nat.reduceAdd,Nat.reduceMul,Nat.reduceLeDiff,quietOp,blindOp,Int.reduceEq,Int.reduceLT,Int.reduceLE,Nat.reduceLT,tiA,tiXA, true_and]
    exact e2
  · obtain ⟨B6, hB6, o6⟩ := id e2.ex
    obtain ⟨wi, _, _, ew, rw6⟩ := o6.get 0 rfl (by omega)
    subst ew
    have k1 := ints_get? y (m - 1) (by omega)
    have i1 : ((m : Int) - 1).toNat = m - 1 := by omega
    have zz3 : zeros 3 [.int .i64 0] = [.int .i64 0, .int .i64 0, .int .i64 0] := rfl
    try simp (disch := first | omega | (simp only [L3] <;> omega)) only [Sall,evalOp,init,binA_s,binE,binI,unE,convE,okNil,builtE,gv,TD.isAgg,resV,↓reduceIte,Nat.reduceEqDiff,reduceCtorEq,Nat.reduceAdd,Nat.reduceMul,Nat.reduceLeDiff,quietOp,blindOp,Int.reduceEq,Int.reduceLT,Int.reduceLE,Nat.reduceLT,tiA,tiXA, rw6, zz3, builtE, i1, k1, w64]
    refine ⟨⟨by omega, by omega⟩, ?_⟩
    refine (pickL [-1, 16, y.getD (m - 1) 0] 3 rfl (by omega) (by omega) e2 hsi4 hc4 sc4 hnb).ex ?_
    rintro x H7 ⟨hx, e3⟩
    obtain ⟨B7, hB7, o7⟩ := id e3.ex
    have rw7 := (o7.getV 0 rfl).2.2
    refine Holds.mp ?_
    try simp (disch := first | omega | (simp only [L3] <;> omega)) only [Sall,evalOp,init,binA_s,binE,binI,unE,convE,okNil,builtE,gv,TD.isAgg,resV,↓reduceIte,Nat.reduceEqDiff,reduceCtorEq,Nat.reduceAdd,Nat.reduceMul,Nat.reduceLeDiff,quietOp,blindOp,Int.reduceEq,Int.reduceLT,Int.reduceLE,Nat.reduceLT,tiA,tiXA, rw7, hyl, ints_set]
    (repeat refine And.intro (by omega) ?_)
    try simp (disch := first | omega | (simp only [L3] <;> omega)) only [Sall,evalOp,init,binA_s,binE,binI,unE,convE,okNil,builtE,gv,TD.isAgg,resV,↓reduceIte,Nat.reduceEqDiff,reduceCtorEq,Nat.reduceAdd,Nat.reduceMul,Nat.reduceLeDiff,quietOp,blindOp,Int.reduceEq,Int.reduceLT,Int.reduceLE,Nat.reduceLT,tiA,tiXA, rw7, hyl, ints_set]
    exact ⟨y.set 0 x, by rw [List.length_set]; exact hyl, e3.map fun B o => o.put 0 rfl (by rw [ints_length, ints_length, List.length_set])⟩
  rintro t H7 ⟨y, hyl, h2, h5, h6, e3⟩
  have g1' := e3.old sc4 _ _ nri g1
  have g0' : H7.row H.next = some ⟨55, true, [.int .i64 0, .slice none 0 0]⟩ := by
    rw [e3.lowEq (by omega) (by omega)]; exact g04
  have hle := e3.le
  try simp (disch := first | omega | (simp only [L3] <;> omega)) only [Sall,evalOp,init,binA_s,binE,binI,unE,convE,okNil,builtE,gv,TD.isAgg,resV,↓reduceIte,Nat.reduceEqDiff,reduceCtorEq,Nat.reduceAdd,Nat.reduceMul,Nat.reduceLeDiff,quietOp,blindOp,Int.reduceEq,Int.reduceLT,Int.reduceLE,Nat.reduceLT,tiA,tiXA, h2, h5, h6, g1', g0', hu, hw]
  refine ⟨(q, u), w, y, rfl, by omega, fun Hx hx => ?_, ll, hq, hll, fun Hx hx => hr4 Hx fun i r hi hr => hx i r (by omega) (by first | rw [AH.setCells_row, if_neg (by omega), e3.old sc4 _ _ (by omega) hr] | rw [if_neg (by omega), e3.old sc4 _ _ (by omega) hr]), Ow.of_up ⟨by show H.next ≤ H7.next; omega, fun i hi => ?_⟩ (e3.sc.set _ _)⟩
  · obtain ⟨S, hS⟩ := e3.laterP hsi4 0 rfl Hx fun i r hi hne hr => hx i r (by omega) (by first | rw [AH.setCells_row, if_neg (by omega), hr] | rw [if_neg (by omega), hr])
    rw [hyl]
    exact sl_rd hS
  · rw [AH.setCells_row, if_neg (by omega), e3.lowEq (by omega) (by omega), old4 _ hi]
end Go.Proofs.YtpienljnoaendaaGreat.A
end

section
set_option maxRecDepth 100000
set_option maxHeartbeats 2000000
namespace Go.Proofs.YtpienljnoaendaaGreat.A
open Go Go.Abs Go.RowKit
theorem schedule9_c (q : Int) (u w : Value) (k : Nat) (l : List Int) (H : AH) (hk : k ≤ 4294967296) (ha : Rd 14 H u k l) (hb : Rd 14 H w k l) :
    ACalls Tryz.prog 39 [.agg #[.int .i64 q, u], .agg #[.int .i64 q, w]] H (is (.bool true) H) := by
  refine acalls_up rfl (ACalls.wf (by kernel_rfl) fun hs => acalls_of_awp [.tmp 4] Tryz.func39 (by kernel_rfl) rfl rfl (Nat.le_of_ble_eq_true rfl) (by kernel_rfl) ?_)
  have h1 := ha.one
  have h2 := hb.one
  have la := ha.len
  have lb := hb.len
  have up : Up H.next H ((H.push ⟨26, true, [.int .i64 q, u]⟩).push ⟨26, true, [.int .i64 q, w]⟩) := ((Up.refl _ H).push (Nat.le_refl _) _).push (Nat.le_succ _) _
  have g0 : ((H.push ⟨26, true, [.int .i64 q, u]⟩).push ⟨26, true, [.int .i64 q, w]⟩).row H.next = some ⟨26, true, [.int .i64 q, u]⟩ := by
    rw [AH.push_row, AH.push_next, if_neg (by omega), AH.push_row, if_pos rfl]
  have g1 : ((H.push ⟨26, true, [.int .i64 q, u]⟩).push ⟨26, true, [.int .i64 q, w]⟩).row (H.next + 1) = some ⟨26, true, [.int .i64 q, w]⟩ := by
    rw [AH.push_row, AH.push_next, if_pos rfl]
  try simp (disch := first | omega | (simp only [L3] <;> omega)) only [Sall,evalOp,init,binA_s,binE,binI,unE,convE,okNil,builtE,gv,TD.isAgg,resV,↓reduceIte,Nat.reduceEqDiff,reduceCtorEq,Nat.reduceAdd,Nat.reduceMul,Nat.reduceLeDiff,quietOp,blindOp,Int.reduceEq,Int.reduceLT,Int.reduceLE,Nat.reduceLT,tiA,tiXA, h1, h2]
  generalize (H.push ⟨26, true, [.int .i64 q, u]⟩).push ⟨26, true, [.int .i64 q, w]⟩ = H1 at up g0 g1 ⊢
  have ha1 := ha.same (up.le hs).row
  have hb1 := hb.same (up.le hs).row
  try simp (disch := first | omega | (simp only [L3] <;> omega)) only [Sall,evalOp,init,binA_s,binE,binI,unE,convE,okNil,builtE,gv,TD.isAgg,resV,↓reduceIte,Nat.reduceEqDiff,reduceCtorEq,Nat.reduceAdd,Nat.reduceMul,Nat.reduceLeDiff,quietOp,blindOp,Int.reduceEq,Int.reduceLT,Int.reduceLE,Nat.reduceLT,tiA,tiXA, g0, g1, h1, h2, la, lb, builtE, bne_self_eq_false]
  refine awp_loop (fun z t Hx => H1 = Hx ∧ ∃ i : Nat, z = k - i ∧ i ≤ k ∧ t 5 = .int .i64 i ∧ t 2 = .pointer (some ⟨H.next, 0, none⟩) ∧ t 3 = .pointer (some ⟨H.next + 1, 0, none⟩)) k ?_ ?_
  · refine ⟨rfl, 0, by omega, by omega, ?_⟩
    try simp (disch := first | omega | (simp only [L3] <;> omega)) only [Sall,evalOp,init,binA_s,binE,binI,unE,convE,okNil,builtE,gv,TD.isAgg,resV,↓reduceIte,Nat.reduceEqDiff,reduceCtorEq,Nat.reduceAdd,Nat.reduceMul,Nat.reduceLeDiff,quietOp,blindOp,Int.reduceEq,Int.reduceLT,Int.reduceLE,Nat.reduceLT,tiA,tiXA, Int.natCast_zero]
  · rintro z t Hx ⟨rfl, i, hz, hi, h5, h2', h3⟩
    try simp (disch := first | omega | (simp only [L3] <;> omega)) only [Sall,evalOp,init,binA_s,binE,binI,unE,convE,okNil,builtE,gv,TD.isAgg,resV,↓reduceIte,Nat.reduceEqDiff,reduceCtorEq,Nat.reduceAdd,Nat.reduceMul,Nat.reduceLeDiff,quietOp,blindOp,Int.reduceEq,Int.reduceLT,Int.reduceLE,Nat.reduceLT,tiA,tiXA, h5, h2', g0, h1, builtE, la]
    refine condC_dec (fun hh => ?_) (fun hh => ?_)
    · obtain ⟨ci, co, cu, cc, cr, ec, c1, c2, c3, c4⟩ := ha1.get (show 0 < k by omega)
      obtain ⟨di, dd, du, dc, dr, ed, d1, d2, d3, d4⟩ := hb1.get (show 0 < k by omega)
      have c5 := c4 (i * 14) 14 (by omega)
      have d5 := d4 (i * 14) 14 (by omega)
      have hr14 : ((l.drop (i * 14)).take 14).length = 14 := rnd_length l i k ha.1 (by omega)
      have lg : co + i * 14 + 14 ≤ cr.cells.length := by omega
      have lg2 : dd + i * 14 + 14 ≤ dr.cells.length := by omega
      obtain ⟨r, er⟩ : ∃ r, r = (l.drop (i * 14)).take 14 := ⟨_, rfl⟩
      rw [← er] at hr14 c5 d5
      have ag : aggI (ints r) = r := by
        unfold aggI ints
        rw [List.map_map]
        exact (List.map_congr_left fun x _ => rfl).trans (List.map_id r)
      try simp (disch := first | omega | (simp only [L3] <;> omega)) only [Sall,evalOp,init,binA_s,binE,binI,unE,convE,okNil,builtE,gv,TD.isAgg,resV,↓reduceIte,Nat.reduceEqDiff,reduceCtorEq,Nat.reduceAdd,Nat.reduceMul,Nat.reduceLeDiff,quietOp,blindOp,Int.reduceEq,Int.reduceLT,Int.reduceLE,Nat.reduceLT,tiA,tiXA, true_and]
      refine draw_id (by kernel_rfl) (by kernel_rfl) ?_
      try simp (disch := first | omega | (simp only [L3] <;> omega)) only [Sall,evalOp,init,binA_s,binE,binI,unE,convE,okNil,builtE,gv,TD.isAgg,resV,↓reduceIte,Nat.reduceEqDiff,reduceCtorEq,Nat.reduceAdd,Nat.reduceMul,Nat.reduceLeDiff,quietOp,blindOp,Int.reduceEq,Int.reduceLT,Int.reduceLE,Nat.reduceLT,tiA,tiXA, h5, h2', h3, g0, g1, ec, ed, c1, d1, c5, d5, lg, lg2, hr14, arrE, ag, beq_self_eq_true, w64]
      exact ⟨⟨by omega, by omega⟩, ⟨by omega, by omega⟩, ⟨by kernel_rfl, rfl⟩, k - (i + 1), by omega, i + 1, rfl, by omega, by omega⟩
    · try simp (disch := first | omega | (simp only [L3] <;> omega)) only [Sall,evalOp,init,binA_s,binE,binI,unE,convE,okNil,builtE,gv,TD.isAgg,resV,↓reduceIte,Nat.reduceEqDiff,reduceCtorEq,Nat.reduceAdd,Nat.reduceMul,Nat.reduceLeDiff,quietOp,blindOp,Int.reduceEq,Int.reduceLT,Int.reduceLE,Nat.reduceLT,tiA,tiXA, true_and]
      exact up
end Go.Proofs.YtpienljnoaendaaGreat.A
end

section
set_option maxRecDepth 100000
set_option maxHeartbeats 2000000
namespace Go.Proofs.YtpienljnoaendaaGreat.A
open Go Go.Abs Go.RowKit
theorem rows9_c (a b : Value) (ll : List (List Int)) (H : AH) (hn : ll.length ≤ 4294967296) (hr : ∀ j, j < ll.length → (ll.getD j []).length ≤ 4294967296) (ha : Rd2 1 H a ll) (hb : Rd2 1 H b ll) : ACalls Tryz.prog 158 [a, b] H (is (.bool true) H) := by
  refine acalls_of_awp [.tmp 4] Tryz.func158 (by kernel_rfl) rfl rfl (Nat.le_of_ble_eq_true rfl) (by kernel_rfl) ?_
  have la := ha.len
  have lb := hb.len
  try simp (disch := first | omega | (simp only [L3] <;> omega)) only [Sall,evalOp,init,binA_s,binE,binI,unE,convE,okNil,builtE,gv,TD.isAgg,resV,↓reduceIte,Nat.reduceEqDiff,reduceCtorEq,Nat.reduceAdd,Nat.reduceMul,Nat.reduceLeDiff,quietOp,blindOp,Int.reduceEq,Int.reduceLT,Int.reduceLE,Nat.reduceLT,tiA,tiXA, la, lb, builtE, bne_self_eq_false]
  refine awp_loop (fun z t H' => H' = H ∧ ∃ j : Nat, z = ll.length - j ∧ j ≤ ll.length ∧ t 5 = .int .i64 j ∧ t 0 = a ∧ t 1 = b) ll.length ?_ ?_
  · refine ⟨rfl, 0, by omega, by omega, ?_⟩
    try simp (disch := first | omega | (simp only [L3] <;> omega)) only [Sall,evalOp,init,binA_s,binE,binI,unE,convE,okNil,builtE,gv,TD.isAgg,resV,↓reduceIte,Nat.reduceEqDiff,reduceCtorEq,Nat.reduceAdd,Nat.reduceMul,Nat.reduceLeDiff,quietOp,blindOp,Int.reduceEq,Int.reduceLT,Int.reduceLE,Nat.reduceLT,tiA,tiXA, Int.natCast_zero]
  · rintro z t H' ⟨rfl, j, hz, hj, h5, h0, h1⟩
    try simp (disch := first | omega | (simp only [L3] <;> omega)) only [Sall,evalOp,init,binA_s,binE,binI,unE,convE,okNil,builtE,gv,TD.isAgg,resV,↓reduceIte,Nat.reduceEqDiff,reduceCtorEq,Nat.reduceAdd,Nat.reduceMul,Nat.reduceLeDiff,quietOp,blindOp,Int.reduceEq,Int.reduceLT,Int.reduceLE,Nat.reduceLT,tiA,tiXA, h5, h0, la, builtE]
    refine condC_dec (fun hh => ?_) (fun hh => ?_)
    · obtain ⟨ai, ao, au, ac, ar, ax, am, rfl, a1, a2, a3, a4⟩ := ha.get (j := j) (by omega)
      obtain ⟨bi, bo, bu, bc, br, bx, bm, rfl, b1, b2, b3, b4⟩ := hb.get (j := j) (by omega)
      have a5 := a3.lenK1
      have b5 := b3.lenK1
      rw [a5] at a3
      rw [b5] at b3
      have hj2 := hr j (by omega)
      try simp (disch := first | omega | (simp only [L3] <;> omega)) only [Sall,evalOp,init,binA_s,binE,binI,unE,convE,okNil,builtE,gv,TD.isAgg,resV,↓reduceIte,Nat.reduceEqDiff,reduceCtorEq,Nat.reduceAdd,Nat.reduceMul,Nat.reduceLeDiff,quietOp,blindOp,Int.reduceEq,Int.reduceLT,Int.reduceLE,Nat.reduceLT,tiA,tiXA, h5, h0, h1]
      refine draw_id (by kernel_rfl) (by kernel_rfl) ?_
      try simp (disch := first | omega | (simp only [L3] <;> omega)) only [Sall,evalOp,init,binA_s,binE,binI,unE,convE,okNil,builtE,gv,TD.isAgg,resV,↓reduceIte,Nat.reduceEqDiff,reduceCtorEq,Nat.reduceAdd,Nat.reduceMul,Nat.reduceLeDiff,quietOp,blindOp,Int.reduceEq,Int.reduceLT,Int.reduceLE,Nat.reduceLT,tiA,tiXA, h5, h0, h1, a1, a2, a4, b1, b2, b4]
      (repeat refine And.intro (by omega) ?_)
      try simp (disch := first | omega | (simp only [L3] <;> omega)) only [Sall,evalOp,init,binA_s,binE,binI,unE,convE,okNil,builtE,gv,TD.isAgg,resV,↓reduceIte,Nat.reduceEqDiff,reduceCtorEq,Nat.reduceAdd,Nat.reduceMul,Nat.reduceLeDiff,quietOp,blindOp,Int.reduceEq,Int.reduceLT,Int.reduceLE,Nat.reduceLT,tiA,tiXA, h5, h0, h1, a1, a2, a4, b1, b2, b4]
      refine (likeInts_c ax bx _ _ H' hj2 a3 b3).to ?_
      refine ⟨.inr (.inr (LE.refl _)), ?_⟩
      try simp (disch := first | omega | (simp only [L3] <;> omega)) only [Sall,evalOp,init,binA_s,binE,binI,unE,convE,okNil,builtE,gv,TD.isAgg,resV,↓reduceIte,Nat.reduceEqDiff,reduceCtorEq,Nat.reduceAdd,Nat.reduceMul,Nat.reduceLeDiff,quietOp,blindOp,Int.reduceEq,Int.reduceLT,Int.reduceLE,Nat.reduceLT,tiA,tiXA, h5, h0, h1, w64]
      exact ⟨ll.length - (j + 1), by omega, j + 1, rfl, by omega, rfl⟩
    · try simp (disch := first | omega | (simp only [L3] <;> omega)) only [Sall,evalOp,init,binA_s,binE,binI,unE,convE,okNil,builtE,gv,TD.isAgg,resV,↓reduceIte,Nat.reduceEqDiff,reduceCtorEq,Nat.reduceAdd,Nat.reduceMul,Nat.reduceLeDiff,quietOp,blindOp,Int.reduceEq,Int.reduceLT,Int.reduceLE,Nat.reduceLT,tiA,tiXA, true_and]
      exact ⟨rfl, rfl⟩
theorem evening9_c (q : Int) (a b : Value) (ll : List (List Int)) (H : AH) (hn : ll.length ≤ 4294967296) (hr : ∀ j, j < ll.length → (ll.getD j []).length ≤ 4294967296) (ha : Rd2 1 H a ll) (hb : Rd2 1 H b ll) : ACalls Tryz.prog 43 [.agg #[.int .i64 q, a], .agg #[.int .i64 q, b]] H (is (.bool true) H) := by
  refine acalls_up rfl (ACalls.wf (by kernel_rfl) fun hs => acalls_of_awp [.tmp 4] Tryz.func43 (by kernel_rfl) rfl rfl (Nat.le_of_ble_eq_true rfl) (by kernel_rfl) ?_)
  have h1 := ha.one
  have h2 := hb.one
  have o1 := ((Ow.refl hs).push ⟨55, true, [.int .i64 q, a]⟩).push ⟨55, true, [.int .i64 q, b]⟩
  have o1 : Ow H ((H.push ⟨55, true, [.int .i64 q, a]⟩).push ⟨55, true, [.int .i64 q, b]⟩) [.row H.next ⟨55, true, [.int .i64 q, a]⟩, .row (H.next + 1) ⟨55, true, [.int .i64 q, b]⟩] := o1
  try simp (disch := first | omega | (simp only [L3] <;> omega)) only [Sall,evalOp,init,binA_s,binE,binI,unE,convE,okNil,builtE,gv,TD.isAgg,resV,↓reduceIte,Nat.reduceEqDiff,reduceCtorEq,Nat.reduceAdd,Nat.reduceMul,Nat.reduceLeDiff,quietOp,blindOp,Int.reduceEq,Int.reduceLT,Int.reduceLE,Nat.reduceLT,tiA,tiXA, h1, h2]
  obtain ⟨pi, epi⟩ : ∃ pi, pi = H.next := ⟨_, rfl⟩
  rw [← epi] at o1 ⊢
  generalize (H.push ⟨55, true, [.int .i64 q, a]⟩).push ⟨55, true, [.int .i64 q, b]⟩ = H1 at o1 ⊢
  have g0 := (o1.rowAt 0 rfl).1
  have g1 := (o1.rowAt 1 rfl).1
  have ee : (q == q) = true := beq_self_eq_true _
  try simp (disch := first | omega | (simp only [L3] <;> omega)) only [Sall,evalOp,init,binA_s,binE,binI,unE,convE,okNil,builtE,gv,TD.isAgg,resV,↓reduceIte,Nat.reduceEqDiff,reduceCtorEq,Nat.reduceAdd,Nat.reduceMul,Nat.reduceLeDiff,quietOp,blindOp,Int.reduceEq,Int.reduceLT,Int.reduceLE,Nat.reduceLT,tiA,tiXA, g0, g1, h1, h2, ee]
  refine (rows9_c a b ll H1 hn hr (ha.same (o1.old hs)) (hb.same (o1.old hs))).to ?_
  refine Holds.mp ?_
  try simp (disch := first | omega | (simp only [L3] <;> omega)) only [Sall,evalOp,init,binA_s,binE,binI,unE,convE,okNil,builtE,gv,TD.isAgg,resV,↓reduceIte,Nat.reduceEqDiff,reduceCtorEq,Nat.reduceAdd,Nat.reduceMul,Nat.reduceLeDiff,quietOp,blindOp,Int.reduceEq,Int.reduceLT,Int.reduceLE,Nat.reduceLT,tiA,tiXA, true_and]
  first | exact (by rw [epi]; exact o1.up) | exact ⟨rfl, by rw [epi]; exact o1.up⟩
end Go.Proofs.YtpienljnoaendaaGreat.A
end

section
set_option maxRecDepth 100000
set_option maxHeartbeats 2000000
namespace Go.Proofs.YtpienljnoaendaaGreat.A
open Go Go.Abs Go.RowKit
def FbR (lo : Nat) (H : AH) (r : Value) (o : Option (List Int)) : Prop := match o with
  | none => r = .slice none 0 0
  | some z => ∃ fi, lo ≤ fi ∧ fi < H.next ∧ r = .slice (some ⟨fi, 0, some 1⟩) z.length z.length ∧ H.row fi = some ⟨2, true, ints z⟩
def fbG (n f : Nat) (y : List Int) (x : Int) : Option (List Int) := if y.contains x = true then none else fbN n f (y ++ [x])
theorem fbN_succ (n f : Nat) (y : List Int) (h : ¬ (y.length % 4 = 0 ∧ 0 < y.length ∧ fitsB n y = false)) : fbN n (f + 1) y = (seqL 0 n).findSome? (fbG n f y) := by
  conv => lhs; unfold fbN
  rw [if_neg h]
  rfl
theorem mOf_ok {n : Nat} (hn : n = 4 ∨ n = 5 ∨ n = 8 ∨ n = 9) : 1 ≤ mOf n ∧ mOf n ≤ n := by
  rcases hn with rfl | rfl | rfl | rfl <;> decide
theorem made_ok {n : Nat} (hn : n = 4 ∨ n = 5 ∨ n = 8 ∨ n = 9) {y : List Int} (hy : ∀ x ∈ y, 0 ≤ x ∧ x < (n : Int)) (hl : y.length ≤ 16) : EvOk n (madeL (mOf n) y (mOf n)) := by
  have hm := mOf_ok hn
  refine ⟨by rw [madeL_length]; omega, fun i hi => ?_⟩
  rw [madeL_length] at hi
  rw [madeL_getD _ _ _ i hi, mdL_length]
  exact ⟨hl, mdL_mem hm hy⟩
theorem firstBase_c (n : Nat) (hn : n = 4 ∨ n = 5 ∨ n = 8 ∨ n = 9) : ∀ (fuel : Nat) (y : List Int) (v : Value) (lo0 hi0 : Nat) (H : AH), fuel + y.length = n - n % 4 → Fr 1 2 lo0 hi0 H v y.length y → lo0 ≤ hi0 → hi0 ≤ H.next → (∀ x ∈ y, 0 ≤ x ∧ x < (n : Int)) →
    ACalls Tryz.prog 162 [.int .i64 n, v] H (fun r H' => Up H.next H H' ∧ FbR lo0 H' r (fbN n fuel y)) := by
  intro fuel
  induction fuel with
  | zero =>
    intro y v lo0 hi0 H hlen hv hlh hhi hy
    have hn16 : 1 ≤ n ∧ n ≤ 9 := by omega
    have hl4 : y.length % 4 = 0 := by omega
    refine ACalls.wf (by kernel_rfl) fun hs => acalls_of_awp [.tmp 4] Tryz.func162 (by kernel_rfl) rfl rfl (Nat.le_of_ble_eq_true rfl) (by kernel_rfl) ?_
    have em : Int.tmod (y.length : Int) 4 = ((y.length % 4 : Nat) : Int) := rfl
    have em2 : Int.tmod (n : Int) 4 = ((n % 4 : Nat) : Int) := rfl
    have hone := hv.rd.one
    have hnone : fitsB n y = false → fbN n 0 y = none := fun h => by
      have hw : whistB n (madeL (mOf n) y (mOf n)) = false := by
        cases hh : whistB n (madeL (mOf n) y (mOf n)) with
        | false => rfl
        | true => rw [whist_fits hh] at h; cases h
      show (if whistB n (madeL (mOf n) y (mOf n)) = true then some y else none) = none
      rw [hw, if_neg (by simp)]
    have e0 : Int.tmod (y.length : Int) 4 = 0 := by rw [em, hl4]; rfl
    have e00 : ((0 : Int) == 0) = true := rfl
    have hEv := made_ok hn hy (by omega)
    have hvl := hv.rd.len
    have hfit : fitsB n y = (eachB (fun x => decide (x ≤ 1)) (tabM n wP (madeL (mOf n) y (mOf n))) && eachB (fun x => decide (x ≤ 2)) (tabM n wO (madeL (mOf n) y (mOf n)))) := rfl
    revert hEv hfit
    obtain ⟨R, eR⟩ : ∃ R, R = madeL (mOf n) y (mOf n) := ⟨_, rfl⟩
    rw [← eR]
    intro hEv hfit
    have hmade := madeFrom_c n (by omega) v y H hv.rd (by omega) hy
    rw [← eR] at hmade
    try simp (disch := first | omega | (simp only [L3] <;> omega)) only [Sall,evalOp,init,binA_s,binE,binI,unE,convE,okNil,builtE,gv,TD.isAgg,resV,↓reduceIte,Nat.reduceEqDiff,reduceCtorEq,Nat.reduceAdd,Nat.reduceMul,Nat.reduceLeDiff,quietOp,blindOp,Int.reduceEq,Int.reduceLT,Int.reduceLE,Nat.reduceLT,tiA, builtE, hvl, e0, e00]
    refine hmade.ex ?_
    rintro u H2 ⟨up2, f2⟩
    have n2 := up2.next
    have o2 := f2.rd.one
    try simp (disch := first | omega | (simp only [L3] <;> omega)) only [Sall,evalOp,init,binA_s,binE,binI,unE,convE,okNil,builtE,gv,TD.isAgg,resV,↓reduceIte,Nat.reduceEqDiff,reduceCtorEq,Nat.reduceAdd,Nat.reduceMul,Nat.reduceLeDiff,quietOp,blindOp,Int.reduceEq,Int.reduceLT,Int.reduceLE,Nat.reduceLT,tiA, o2]
    obtain ⟨H3, e3⟩ : ∃ H3, H3 = (H2.push ⟨55, true, [.int .i64 0, .slice none 0 0]⟩).setCells H2.next [.int .i64 n, u] := ⟨_, rfl⟩
    have up3 : Up H2.next H2 H3 := by rw [e3]; exact ((Up.refl _ H2).push (Nat.le_refl _) _).set (Nat.le_refl _) _
    have r3 : H3.row H2.next = some ⟨55, true, [.int .i64 n, u]⟩ := by rw [e3, AH.setCells_row, if_pos rfl, AH.push_row, if_pos rfl]; rfl
    have n3 : H3.next = H2.next + 1 := by rw [e3]; rfl
    rw [← e3]
    clear e3
    have U3 : Up H.next H H3 := up2.trans up3 n2
    have f3 : Fr2 1 33 2 H.next H2.next H3 u R := f2.same fun i _ hi => up3.row i hi
    refine (partners_c n (by omega) u R H3 f3.rd hEv).mono ?_
    rintro v4 H4 ⟨up4, f4⟩
    have n4 := up4.next
    have r4 : H4.row H2.next = some ⟨55, true, [.int .i64 n, u]⟩ := by rw [up4.row _ (by omega), r3]
    have U4 : Up H.next H H4 := U3.trans up4 (by omega)
    have f34 : Fr2 1 33 2 H.next H2.next H4 u R := f3.same fun i _ hi => up4.row i (by omega)
    refine Holds.mp ?_
    try simp (disch := first | omega | (simp only [L3] <;> omega)) only [Sall,evalOp,init,binA_s,binE,binI,unE,convE,okNil,builtE,gv,TD.isAgg,resV,↓reduceIte,Nat.reduceEqDiff,reduceCtorEq,Nat.reduceAdd,Nat.reduceMul,Nat.reduceLeDiff,quietOp,blindOp,Int.reduceEq,Int.reduceLT,Int.reduceLE,Nat.reduceLT,tiA, true_and]
    refine (areAll_c 256 (fun x => decide (x ≤ 1)) fb1_c v4 n _ H4 f4.rd (tabM_sq _ _ _) (by omega)).to ?_
    cases g1 : eachB (fun x => decide (x ≤ 1)) (tabM n wP R) with
    | false =>
      rw [g1, Bool.false_and] at hfit
      try simp (disch := first | omega | (simp only [L3] <;> omega)) only [Sall,evalOp,init,binA_s,binE,binI,unE,convE,okNil,builtE,gv,TD.isAgg,resV,↓reduceIte,Nat.reduceEqDiff,reduceCtorEq,Nat.reduceAdd,Nat.reduceMul,Nat.reduceLeDiff,quietOp,blindOp,Int.reduceEq,Int.reduceLT,Int.reduceLE,Nat.reduceLT,tiA, Bool.not_false]
      exact ⟨U4, by rw [hnone hfit]; rfl⟩
    | true =>
      rw [g1, Bool.true_and] at hfit
      try simp (disch := first | omega | (simp only [L3] <;> omega)) only [Sall,evalOp,init,binA_s,binE,binI,unE,convE,okNil,builtE,gv,TD.isAgg,resV,↓reduceIte,Nat.reduceEqDiff,reduceCtorEq,Nat.reduceAdd,Nat.reduceMul,Nat.reduceLeDiff,quietOp,blindOp,Int.reduceEq,Int.reduceLT,Int.reduceLE,Nat.reduceLT,tiA, Bool.not_true, r4]
      refine (opponents0_c n (by omega) u R H4 f34.rd hEv).mono ?_
      rintro v5 H5 ⟨up5, f5⟩
      have n5 := up5.next
      have r5 : H5.row H2.next = some ⟨55, true, [.int .i64 n, u]⟩ := by rw [up5.row _ (by omega), r4]
      have U5 : Up H.next H H5 := U4.trans up5 (by omega)
      have f35 : Fr2 1 33 2 H.next H2.next H5 u R := f34.same fun i _ hi => up5.row i (by omega)
      have hv5 : Fr 1 2 lo0 hi0 H5 v y.length y := hv.same fun i _ hi => U5.row i (by omega)
      refine Holds.mp ?_
      try simp (disch := first | omega | (simp only [L3] <;> omega)) only [Sall,evalOp,init,binA_s,binE,binI,unE,convE,okNil,builtE,gv,TD.isAgg,resV,↓reduceIte,Nat.reduceEqDiff,reduceCtorEq,Nat.reduceAdd,Nat.reduceMul,Nat.reduceLeDiff,quietOp,blindOp,Int.reduceEq,Int.reduceLT,Int.reduceLE,Nat.reduceLT,tiA, true_and]
      refine (areAll_c 257 (fun x => decide (x ≤ 2)) fb2_c v5 n _ H5 f5.rd (tabM_sq _ _ _) (by omega)).to ?_
      cases g2 : eachB (fun x => decide (x ≤ 2)) (tabM n wO R) with
      | false =>
        rw [g2] at hfit
        try simp (disch := first | omega | (simp only [L3] <;> omega)) only [Sall,evalOp,init,binA_s,binE,binI,unE,convE,okNil,builtE,gv,TD.isAgg,resV,↓reduceIte,Nat.reduceEqDiff,reduceCtorEq,Nat.reduceAdd,Nat.reduceMul,Nat.reduceLeDiff,quietOp,blindOp,Int.reduceEq,Int.reduceLT,Int.reduceLE,Nat.reduceLT,tiA, Bool.not_false]
        exact ⟨U5, by rw [hnone hfit]; rfl⟩
      | true =>
        rw [g2] at hfit
        try simp (disch := first | omega | (simp only [L3] <;> omega)) only [Sall,evalOp,init,binA_s,binE,binI,unE,convE,okNil,builtE,gv,TD.isAgg,resV,↓reduceIte,Nat.reduceEqDiff,reduceCtorEq,Nat.reduceAdd,Nat.reduceMul,Nat.reduceLeDiff,quietOp,blindOp,Int.reduceEq,Int.reduceLT,Int.reduceLE,Nat.reduceLT,tiA, Bool.not_true, w64]
        refine (size_c v y H5 hv5.rd (by omega)).to ?_
        have e5 : ((y.length : Int) == (n : Int) - ((n % 4 : Nat) : Int)) = true := by rw [beq_iff_eq]; omega
        try simp (disch := first | omega | (simp only [L3] <;> omega)) only [Sall,evalOp,init,binA_s,binE,binI,unE,convE,okNil,builtE,gv,TD.isAgg,resV,↓reduceIte,Nat.reduceEqDiff,reduceCtorEq,Nat.reduceAdd,Nat.reduceMul,Nat.reduceLeDiff,quietOp,blindOp,Int.reduceEq,Int.reduceLT,Int.reduceLE,Nat.reduceLT,tiA, em2, e5, r5, w64]
        refine (isWhist_c n (by omega) u R H5 f35.rd hEv).to ?_
        have e0N : fbN n 0 y = if whistB n R = true then some y else none := by rw [eR]; rfl
        rw [e0N]
        cases hw : whistB n R with
        | true =>
          obtain ⟨fi, k1, k2, ev, k3⟩ := hv5.get (by omega)
          try simp (disch := first | omega | (simp only [L3] <;> omega)) only [Sall,evalOp,init,binA_s,binE,binI,unE,convE,okNil,builtE,gv,TD.isAgg,resV,↓reduceIte,Nat.reduceEqDiff,reduceCtorEq,Nat.reduceAdd,Nat.reduceMul,Nat.reduceLeDiff,quietOp,blindOp,Int.reduceEq,Int.reduceLT,Int.reduceLE,Nat.reduceLT,tiA, true_and]
          exact ⟨U5, fi, k1, by omega, ev, k3⟩
        | false =>
          try simp (disch := first | omega | (simp only [L3] <;> omega)) only [Sall,evalOp,init,binA_s,binE,binI,unE,convE,okNil,builtE,gv,TD.isAgg,resV,↓reduceIte,Nat.reduceEqDiff,reduceCtorEq,Nat.reduceAdd,Nat.reduceMul,Nat.reduceLeDiff,quietOp,blindOp,Int.reduceEq,Int.reduceLT,Int.reduceLE,Nat.reduceLT,tiA, true_and]
          exact ⟨U5, rfl⟩
  | succ f ih =>
    intro y v lo0 hi0 H hlen hv hlh hhi hy
    have hn16 : 1 ≤ n ∧ n ≤ 9 := by omega
    refine ACalls.wf (by kernel_rfl) fun hs => acalls_of_awp [.tmp 4] Tryz.func162 (by kernel_rfl) rfl rfl (Nat.le_of_ble_eq_true rfl) (by kernel_rfl) ?_
    have em : Int.tmod (y.length : Int) 4 = ((y.length % 4 : Nat) : Int) := rfl
    have em2 : Int.tmod (n : Int) 4 = ((n % 4 : Nat) : Int) := rfl
    have hone := hv.rd.one
    rw [awp_seq]
    refine awp_cutQ (fun t H' => t 0 = .int .i64 n ∧ t 1 = v ∧ H' = H) ?_ ?_
    · try simp (disch := first | omega | (simp only [L3] <;> omega)) only [Sall,evalOp,init,binA_s,binE,binI,unE,convE,okNil,builtE,gv,TD.isAgg,resV,↓reduceIte,Nat.reduceEqDiff,reduceCtorEq,Nat.reduceAdd,Nat.reduceMul,Nat.reduceLeDiff,quietOp,blindOp,Int.reduceEq,Int.reduceLT,Int.reduceLE,Nat.reduceLT,tiA, true_and]
    rintro t H' ⟨h0, h1, rfl⟩
    rw [awp_seq]
    refine awp_cutQ (fun t H2 => t 0 = .int .i64 n ∧ t 1 = v ∧ Up H'.next H' H2 ∧ fbN n (f + 1) y = (seqL 0 n).findSome? (fbG n f y)) ?_ ?_
    · by_cases hl4 : y.length % 4 = 0
      · have hnone : fitsB n y = false → fbN n (f + 1) y = none := fun h => by
          have h0 : 0 < y.length := by
            cases y with
            | nil => rw [fits_nil] at h; cases h
            | cons => simp
          conv => lhs; unfold fbN
          rw [if_pos ⟨hl4, h0, h⟩]
        have e0 : Int.tmod (y.length : Int) 4 = 0 := by rw [em, hl4]; rfl
        have e00 : ((0 : Int) == 0) = true := rfl
        have hEv := made_ok hn hy (by omega)
        have hvl := hv.rd.len
        have hfit : fitsB n y = (eachB (fun x => decide (x ≤ 1)) (tabM n wP (madeL (mOf n) y (mOf n))) && eachB (fun x => decide (x ≤ 2)) (tabM n wO (madeL (mOf n) y (mOf n)))) := rfl
        revert hEv hfit
        obtain ⟨R, eR⟩ : ∃ R, R = madeL (mOf n) y (mOf n) := ⟨_, rfl⟩
        rw [← eR]
        intro hEv hfit
        have hmade := madeFrom_c n (by omega) v y H' hv.rd (by omega) hy
        rw [← eR] at hmade
        try simp (disch := first | omega | (simp only [L3] <;> omega)) only [Sall,evalOp,init,binA_s,binE,binI,unE,convE,okNil,builtE,gv,TD.isAgg,resV,↓reduceIte,Nat.reduceEqDiff,reduceCtorEq,Nat.reduceAdd,Nat.reduceMul,Nat.reduceLeDiff,quietOp,blindOp,Int.reduceEq,Int.reduceLT,Int.reduceLE,Nat.reduceLT,tiA, h0, h1, builtE, hvl, e0, e00]
        refine hmade.ex ?_
        rintro u H2 ⟨up2, f2⟩
        have n2 := up2.next
        have o2 := f2.rd.one
        try simp (disch := first | omega | (simp only [L3] <;> omega)) only [Sall,evalOp,init,binA_s,binE,binI,unE,convE,okNil,builtE,gv,TD.isAgg,resV,↓reduceIte,Nat.reduceEqDiff,reduceCtorEq,Nat.reduceAdd,Nat.reduceMul,Nat.reduceLeDiff,quietOp,blindOp,Int.reduceEq,Int.reduceLT,Int.reduceLE,Nat.reduceLT,tiA, h0, h1, o2]
        obtain ⟨H3, e3⟩ : ∃ H3, H3 = (H2.push ⟨55, true, [.int .i64 0, .slice none 0 0]⟩).setCells H2.next [.int .i64 n, u] := ⟨_, rfl⟩
        have up3 : Up H2.next H2 H3 := by rw [e3]; exact ((Up.refl _ H2).push (Nat.le_refl _) _).set (Nat.le_refl _) _
        have r3 : H3.row H2.next = some ⟨55, true, [.int .i64 n, u]⟩ := by rw [e3, AH.setCells_row, if_pos rfl, AH.push_row, if_pos rfl]; rfl
        have n3 : H3.next = H2.next + 1 := by rw [e3]; rfl
        rw [← e3]
        clear e3
        have U3 : Up H'.next H' H3 := up2.trans up3 n2
        have f3 : Fr2 1 33 2 H'.next H2.next H3 u R := f2.same fun i _ hi => up3.row i hi
        refine (partners_c n (by omega) u R H3 f3.rd hEv).mono ?_
        rintro v4 H4 ⟨up4, f4⟩
        have n4 := up4.next
        have r4 : H4.row H2.next = some ⟨55, true, [.int .i64 n, u]⟩ := by rw [up4.row _ (by omega), r3]
        have U4 : Up H'.next H' H4 := U3.trans up4 (by omega)
        have f34 : Fr2 1 33 2 H'.next H2.next H4 u R := f3.same fun i _ hi => up4.row i (by omega)
        refine Holds.mp ?_
        try simp (disch := first | omega | (simp only [L3] <;> omega)) only [Sall,evalOp,init,binA_s,binE,binI,unE,convE,okNil,builtE,gv,TD.isAgg,resV,↓reduceIte,Nat.reduceEqDiff,reduceCtorEq,Nat.reduceAdd,Nat.reduceMul,Nat.reduceLeDiff,quietOp,blindOp,Int.reduceEq,Int.reduceLT,Int.reduceLE,Nat.reduceLT,tiA, true_and]
        refine (areAll_c 256 (fun x => decide (x ≤ 1)) fb1_c v4 n _ H4 f4.rd (tabM_sq _ _ _) (by omega)).to ?_
        cases g1 : eachB (fun x => decide (x ≤ 1)) (tabM n wP R) with
        | false =>
          rw [g1, Bool.false_and] at hfit
          try simp (disch := first | omega | (simp only [L3] <;> omega)) only [Sall,evalOp,init,binA_s,binE,binI,unE,convE,okNil,builtE,gv,TD.isAgg,resV,↓reduceIte,Nat.reduceEqDiff,reduceCtorEq,Nat.reduceAdd,Nat.reduceMul,Nat.reduceLeDiff,quietOp,blindOp,Int.reduceEq,Int.reduceLT,Int.reduceLE,Nat.reduceLT,tiA, Bool.not_false]
          exact ⟨U4, by rw [hnone hfit]; rfl⟩
        | true =>
          rw [g1, Bool.true_and] at hfit
          try simp (disch := first | omega | (simp only [L3] <;> omega)) only [Sall,evalOp,init,binA_s,binE,binI,unE,convE,okNil,builtE,gv,TD.isAgg,resV,↓reduceIte,Nat.reduceEqDiff,reduceCtorEq,Nat.reduceAdd,Nat.reduceMul,Nat.reduceLeDiff,quietOp,blindOp,Int.reduceEq,Int.reduceLT,Int.reduceLE,Nat.reduceLT,tiA, Bool.not_true, r4]
          refine (opponents0_c n (by omega) u R H4 f34.rd hEv).mono ?_
          rintro v5 H5 ⟨up5, f5⟩
          have n5 := up5.next
          have r5 : H5.row H2.next = some ⟨55, true, [.int .i64 n, u]⟩ := by rw [up5.row _ (by omega), r4]
          have U5 : Up H'.next H' H5 := U4.trans up5 (by omega)
          have f35 : Fr2 1 33 2 H'.next H2.next H5 u R := f34.same fun i _ hi => up5.row i (by omega)
          have hv5 : Fr 1 2 lo0 hi0 H5 v y.length y := hv.same fun i _ hi => U5.row i (by omega)
          refine Holds.mp ?_
          try simp (disch := first | omega | (simp only [L3] <;> omega)) only [Sall,evalOp,init,binA_s,binE,binI,unE,convE,okNil,builtE,gv,TD.isAgg,resV,↓reduceIte,Nat.reduceEqDiff,reduceCtorEq,Nat.reduceAdd,Nat.reduceMul,Nat.reduceLeDiff,quietOp,blindOp,Int.reduceEq,Int.reduceLT,Int.reduceLE,Nat.reduceLT,tiA, true_and]
          refine (areAll_c 257 (fun x => decide (x ≤ 2)) fb2_c v5 n _ H5 f5.rd (tabM_sq _ _ _) (by omega)).to ?_
          cases g2 : eachB (fun x => decide (x ≤ 2)) (tabM n wO R) with
          | false =>
            rw [g2] at hfit
            try simp (disch := first | omega | (simp only [L3] <;> omega)) only [Sall,evalOp,init,binA_s,binE,binI,unE,convE,okNil,builtE,gv,TD.isAgg,resV,↓reduceIte,Nat.reduceEqDiff,reduceCtorEq,Nat.reduceAdd,Nat.reduceMul,Nat.reduceLeDiff,quietOp,blindOp,Int.reduceEq,Int.reduceLT,Int.reduceLE,Nat.reduceLT,tiA, Bool.not_false]
            exact ⟨U5, by rw [hnone hfit]; rfl⟩
          | true =>
            rw [g2] at hfit
            try simp (disch := first | omega | (simp only [L3] <;> omega)) only [Sall,evalOp,init,binA_s,binE,binI,unE,convE,okNil,builtE,gv,TD.isAgg,resV,↓reduceIte,Nat.reduceEqDiff,reduceCtorEq,Nat.reduceAdd,Nat.reduceMul,Nat.reduceLeDiff,quietOp,blindOp,Int.reduceEq,Int.reduceLT,Int.reduceLE,Nat.reduceLT,tiA, Bool.not_true, h0, h1, w64]
            refine (size_c v y H5 hv5.rd (by omega)).to ?_
            have e5 : ((y.length : Int) == (n : Int) - ((n % 4 : Nat) : Int)) = false := by rw [beq_eq_false_iff_ne]; omega
            try simp (disch := first | omega | (simp only [L3] <;> omega)) only [Sall,evalOp,init,binA_s,binE,binI,unE,convE,okNil,builtE,gv,TD.isAgg,resV,↓reduceIte,Nat.reduceEqDiff,reduceCtorEq,Nat.reduceAdd,Nat.reduceMul,Nat.reduceLeDiff,quietOp,blindOp,Int.reduceEq,Int.reduceLT,Int.reduceLE,Nat.reduceLT,tiA, em2, e5, w64, h0, h1]
            exact ⟨U5, fbN_succ n f y (fun h => by rw [hfit] at h; cases h.2.2)⟩
      · have e0 : (Int.tmod (y.length : Int) 4 == 0) = false := by rw [em, beq_eq_false_iff_ne]; omega
        have hvl := hv.rd.len
        try simp (disch := first | omega | (simp only [L3] <;> omega)) only [Sall,evalOp,init,binA_s,binE,binI,unE,convE,okNil,builtE,gv,TD.isAgg,resV,↓reduceIte,Nat.reduceEqDiff,reduceCtorEq,Nat.reduceAdd,Nat.reduceMul,Nat.reduceLeDiff,quietOp,blindOp,Int.reduceEq,Int.reduceLT,Int.reduceLE,Nat.reduceLT,tiA, h0, h1, builtE, hvl, e0]
        exact ⟨Up.refl _ _, fbN_succ n f y (fun h => hl4 h.1)⟩
    · rintro t H2 ⟨h0, h1, up2, hfb⟩
      rw [hfb]
      have hup2 := up2.next
      have hv2 : Fr 1 2 lo0 hi0 H2 v y.length y := hv.same fun i _ hi => up2.row i (by omega)
      try simp (disch := first | omega | (simp only [L3] <;> omega)) only [Sall,evalOp,init,binA_s,binE,binI,unE,convE,okNil,builtE,gv,TD.isAgg,resV,↓reduceIte,Nat.reduceEqDiff,reduceCtorEq,Nat.reduceAdd,Nat.reduceMul,Nat.reduceLeDiff,quietOp,blindOp,Int.reduceEq,Int.reduceLT,Int.reduceLE,Nat.reduceLT,tiA, h0, h1]
      refine awp_loop (fun m t H3 => ∃ a : Nat, m = n - a ∧ a ≤ n ∧ t 36 = .int .i64 a ∧ t 35 = .int .i64 n ∧ t 0 = .int .i64 n ∧ t 1 = v ∧ Up H'.next H' H3 ∧ (∀ j, j < a → fbG n f y (j : Int) = none)) n ?_ ?_
      · refine ⟨0, by omega, by omega, ?_⟩
        try simp (disch := first | omega | (simp only [L3] <;> omega)) only [Sall,evalOp,init,binA_s,binE,binI,unE,convE,okNil,builtE,gv,TD.isAgg,resV,↓reduceIte,Nat.reduceEqDiff,reduceCtorEq,Nat.reduceAdd,Nat.reduceMul,Nat.reduceLeDiff,quietOp,blindOp,Int.reduceEq,Int.reduceLT,Int.reduceLE,Nat.reduceLT,tiA, Int.natCast_zero, h0, h1, Nat.not_lt_zero, false_implies]
        exact up2
      · rintro m t H3 ⟨a, hm, ha, h36, h35, h0, h1, up3, hall⟩
        have hup3 := up3.next
        have hv3 : Fr 1 2 lo0 hi0 H3 v y.length y := hv.same fun i _ hi => up3.row i (by omega)
        try simp (disch := first | omega | (simp only [L3] <;> omega)) only [Sall,evalOp,init,binA_s,binE,binI,unE,convE,okNil,builtE,gv,TD.isAgg,resV,↓reduceIte,Nat.reduceEqDiff,reduceCtorEq,Nat.reduceAdd,Nat.reduceMul,Nat.reduceLeDiff,quietOp,blindOp,Int.reduceEq,Int.reduceLT,Int.reduceLE,Nat.reduceLT,tiA, h36, h35]
        refine condC_dec (fun h => ?_) (fun h => ?_)
        · try simp (disch := first | omega | (simp only [L3] <;> omega)) only [Sall,evalOp,init,binA_s,binE,binI,unE,convE,okNil,builtE,gv,TD.isAgg,resV,↓reduceIte,Nat.reduceEqDiff,reduceCtorEq,Nat.reduceAdd,Nat.reduceMul,Nat.reduceLeDiff,quietOp,blindOp,Int.reduceEq,Int.reduceLT,Int.reduceLE,Nat.reduceLT,tiA, h36, h35, h0, h1]
          refine (containsI_c v y a H3 hv3.rd (by omega)).to ?_
          have step : fbG n f y (a : Int) = none → ∀ j, j < a + 1 → fbG n f y (j : Int) = none := fun h j hj => by
            by_cases e : j = a
            · rw [e]; exact h
            · exact hall j (by omega)
          cases hcon : y.contains (a : Int) with
          | true =>
            have hno : fbG n f y (a : Int) = none := by unfold fbG; rw [if_pos hcon]
            try simp (disch := first | omega | (simp only [L3] <;> omega)) only [Sall,evalOp,init,binA_s,binE,binI,unE,convE,okNil,builtE,gv,TD.isAgg,resV,↓reduceIte,Nat.reduceEqDiff,reduceCtorEq,Nat.reduceAdd,Nat.reduceMul,Nat.reduceLeDiff,quietOp,blindOp,Int.reduceEq,Int.reduceLT,Int.reduceLE,Nat.reduceLT,tiA, h36, h35, h0, h1, w64]
            refine ⟨n - (a + 1), by omega, a + 1, by omega, by omega, by omega, up3, step hno⟩
          | false =>
            have hgo : fbG n f y (a : Int) = fbN n f (y ++ [(a : Int)]) := by unfold fbG; rw [hcon, if_neg (by simp)]
            have zz : zeros 1 [.int .i64 0] = [.int .i64 0] := rfl
            try simp (disch := first | omega | (simp only [L3] <;> omega)) only [Sall,evalOp,init,binA_s,binE,binI,unE,convE,okNil,builtE,gv,TD.isAgg,resV,↓reduceIte,Nat.reduceEqDiff,reduceCtorEq,Nat.reduceAdd,Nat.reduceMul,Nat.reduceLeDiff,quietOp,blindOp,Int.reduceEq,Int.reduceLT,Int.reduceLE,Nat.reduceLT,tiA, h36, h35, h0, h1]
            refine (cloneI_c v y H3 (Cp.of_fr hv3) (by omega)).mono ?_
            rintro x H4 ⟨up4, hf4⟩
            have n4 := up4.next
            refine Holds.mp ?_
            try simp (disch := first | omega | (simp only [L3] <;> omega)) only [Sall,evalOp,init,binA_s,binE,binI,unE,convE,okNil,builtE,gv,TD.isAgg,resV,↓reduceIte,Nat.reduceEqDiff,reduceCtorEq,Nat.reduceAdd,Nat.reduceMul,Nat.reduceLeDiff,quietOp,blindOp,Int.reduceEq,Int.reduceLT,Int.reduceLE,Nat.reduceLT,tiA, zz, slCells]
            obtain ⟨H5, e5⟩ : ∃ H5, H5 = H4.push ⟨2, true, [.int .i64 a]⟩ := ⟨_, rfl⟩
            have n5 : H5.next = H4.next + 1 := by rw [e5]; rfl
            have s5 : ∀ i, i < H4.next → H5.row i = H4.row i := fun i hi => by rw [e5, AH.push_row, if_neg (by omega)]
            rw [← e5]
            clear e5
            refine appE_fr (k := 1) (lo := H3.next) (hi := H4.next) (l := y) (m := [(a : Int)]) (hf4.same fun i _ hi => s5 i (by omega)) rfl (by omega) rfl (by omega) (by decide) (by omega) (by omega) ?_
            intro v' H6 n6 s6 f6
            have up6 : Up H'.next H' H6 := ⟨by omega, fun i hi => by rw [s6 i (by omega) (by omega), s5 i (by omega), up4.row i (by omega), up3.row i hi]⟩
            have hrec := ih (y ++ [(a : Int)]) v' H5.next (H5.next + 1) H6 (by rw [List.length_append, List.length_singleton]; omega) (by rw [List.length_append, List.length_singleton]; exact f6) (by omega) (by omega) (fun z hz => by
              rcases List.mem_append.1 hz with hz | hz
              · exact hy z hz
              · rw [List.mem_singleton] at hz; omega)
            try simp (disch := first | omega | (simp only [L3] <;> omega)) only [Sall,evalOp,init,binA_s,binE,binI,unE,convE,okNil,builtE,gv,TD.isAgg,resV,↓reduceIte,Nat.reduceEqDiff,reduceCtorEq,Nat.reduceAdd,Nat.reduceMul,Nat.reduceLeDiff,quietOp,blindOp,Int.reduceEq,Int.reduceLT,Int.reduceLE,Nat.reduceLT,tiA, true_and]
            refine hrec.mono ?_
            rintro r H7 ⟨up7, hr7⟩
            have n7 := up7.next
            have U7 : Up H'.next H' H7 := up6.trans up7 (by omega)
            refine Holds.mp ?_
            cases hz : fbN n f (y ++ [(a : Int)]) with
            | none =>
              rw [hz] at hr7 hgo
              have er : r = .slice none 0 0 := hr7
              try simp (disch := first | omega | (simp only [L3] <;> omega)) only [Sall,evalOp,init,binA_s,binE,binI,unE,convE,okNil,builtE,gv,TD.isAgg,resV,↓reduceIte,Nat.reduceEqDiff,reduceCtorEq,Nat.reduceAdd,Nat.reduceMul,Nat.reduceLeDiff,quietOp,blindOp,Int.reduceEq,Int.reduceLT,Int.reduceLE,Nat.reduceLT,tiA, er, binE, Option.isNone_none, h36, h35, h0, h1, w64]
              exact ⟨n - (a + 1), by omega, a + 1, by omega, by omega, by omega, U7, step hgo⟩
            | some z =>
              rw [hz] at hr7 hgo
              obtain ⟨fi, b1, b2, er, b3⟩ := hr7
              rw [findSome_take (fbG n f y) n a (by omega) hall hgo]
              try simp (disch := first | omega | (simp only [L3] <;> omega)) only [Sall,evalOp,init,binA_s,binE,binI,unE,convE,okNil,builtE,gv,TD.isAgg,resV,↓reduceIte,Nat.reduceEqDiff,reduceCtorEq,Nat.reduceAdd,Nat.reduceMul,Nat.reduceLeDiff,quietOp,blindOp,Int.reduceEq,Int.reduceLT,Int.reduceLE,Nat.reduceLT,tiA, er, binE, Option.isNone_some]
              exact ⟨U7, fi, by omega, b2, rfl, b3⟩
        · have ha2 : a = n := by omega
          subst ha2
          rw [findSome_none (fbG a f y) a hall]
          try simp (disch := first | omega | (simp only [L3] <;> omega)) only [Sall,evalOp,init,binA_s,binE,binI,unE,convE,okNil,builtE,gv,TD.isAgg,resV,↓reduceIte,Nat.reduceEqDiff,reduceCtorEq,Nat.reduceAdd,Nat.reduceMul,Nat.reduceLeDiff,quietOp,blindOp,Int.reduceEq,Int.reduceLT,Int.reduceLE,Nat.reduceLT,tiA, true_and]
          exact ⟨up3, rfl⟩
end Go.Proofs.YtpienljnoaendaaGreat.A
end
